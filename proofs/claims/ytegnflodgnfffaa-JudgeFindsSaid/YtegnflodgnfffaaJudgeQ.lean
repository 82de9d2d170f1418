/- Layer 27: which histories are the same; ends; the document's order. -/
import Derived.Test.YtegnflodgnfffaaJudgeP
namespace Go.Proofs.Ytegnflodgnfffaa
open Go.Bur
set_option linter.unusedSimpArgs false
set_option linter.unusedVariables false
set_option maxRecDepth 100000

def endsB (e : Entry) : Bool := (e.answer.err == 361) || ((e.answer.err == 0) && ((e.request.kind == 11) || (e.request.kind == 12)))
theorem rends_eq (n : Nat) (e : Entry) : ref27_Ends n e = some (endsB e) := by
  unfold ref27_Ends endsB
  simp only [jn]
  cases (e.answer.err == 361) <;> cases (e.answer.err == 0) <;> cases (e.request.kind == 11) <;> cases (e.request.kind == 12) <;> rfl
theorem ends_eq (n : Nat) (e : Entry) : judge_ends n e = some (endsB e) := by
  unfold judge_ends endsB
  simp only [jn]
  cases (e.answer.err == 361) <;> cases (e.answer.err == 0) <;> cases (e.request.kind == 11) <;> cases (e.request.kind == 12) <;> rfl
def entSame (x y : Entry) : Bool := ((x.txn == y.txn) && Request.eqb x.request y.request) && ansSame x.answer y.answer
theorem same1_eq (n : Nat) (hn : 1003 ≤ n) (x y : Entry) (hx : x.answer.rows.length ≤ 1000) : judge_Same_1 n x y = some (entSame x y) := by
  unfold judge_Same_1 entSame
  simp only [jn, sameAns_eq n hn _ _ hx, Option.bind_some]
  cases (x.txn == y.txn) <;> cases Request.eqb x.request y.request <;> cases ansSame x.answer y.answer <;> rfl
theorem sameE_eq (n : Nat) (hn : 3000 ≤ n) (a b : List Entry) (ha : a.length ≤ 2100) (hea : ∀ e ∈ a, e.answer.rows.length ≤ 1000) : slices_EqualFunc_Entry_f35 n a b = some (sameL entSame a b) := by
  unfold slices_EqualFunc_Entry_f35
  rw [ineN]
  by_cases h : a.length = b.length
  · rw [decide_eq_true h]
    show slices_EqualFunc_Entry_f35_l1 n n (b, a, (a.length : Int), ((0 : Nat) : Int), ()) = _
    unfold slices_EqualFunc_Entry_f35_l1
    refine (run_loop a (fun (i : Nat) (_ : Unit) => (b, a, (a.length : Int), (i : Int), ())) (fun i x _ => if atE entSame b i x then .inr () else .inl (some false)) (fun _ => some true) (fun r i q x hx hi => ?_) (fun r q => ?_) n 0 () (by omega) (by omega)).trans ?_
    · have hb := get_some (show i < b.length by omega)
      simp only [lt_dec hi, cond_true, idx_nat, hx, hb, Option.bind_some, same1_eq n (by omega) x _ (hea x (List.mem_of_getElem? hx)), wrap_succ (show i < 4611686018427387904 by omega), atE]
      cases entSame x b[i] <;> rfl
    · simp only [ge_dec (Nat.lt_irrefl _), cond_false]
    · rw [List.drop_zero, runL_allFrom, sameL_from b a 0 (by omega), List.drop_zero]
      cases sameL entSame a b <;> rfl
  · rw [decide_eq_false h, sameL_len h]; rfl
def hisSame (a b : History) : Bool := (sameL Bounds.eqb a.schema.tables b.schema.tables && rowsSame a.begun b.begun) && sameL entSame a.entries b.entries
structure SmallH (h : History) : Prop where
  tables : h.schema.tables.length ≤ 1000
  begun : h.begun.length ≤ 1000
  entries : h.entries.length ≤ 2100
  each : ∀ e ∈ h.entries, e.answer.rows.length ≤ 1000
theorem overH_small {h : History} (ho : overH h = false) : SmallH h := by
  unfold overH at ho
  simp only [Bool.or_eq_false_iff, decide_eq_false_iff_not] at ho
  obtain ⟨⟨⟨h1, h2⟩, _, h3⟩, h4⟩ := ho
  have h2' : ¬ 100 < h.begun.length := by
    unfold overRowsP at h2
    simp only [Bool.or_eq_false_iff, decide_eq_false_iff_not] at h2
    exact h2.1
  refine ⟨by omega, by omega, by omega, fun e he => ?_⟩
  have := List.any_eq_false.1 h4 e he
  unfold bigEntry overRowsP at this
  simp only [Bool.or_eq_true, decide_eq_true_eq, not_or] at this
  omega
theorem jsame_eq (n : Nat) (hn : 3000 ≤ n) (a b : History) (h : SmallH a) : judge_Same n a b = some (hisSame a b) := by
  unfold judge_Same hisSame
  simp only [jn, sameB_eq n (by omega) _ _ h.tables, same_eq n (by omega) _ _ h.begun, sameE_eq n hn _ _ h.entries h.each, Option.bind_some]
  cases sameL Bounds.eqb a.schema.tables b.schema.tables <;> cases rowsSame a.begun b.begun <;> cases sameL entSame a.entries b.entries <;> rfl
theorem rsame27_eq (n : Nat) (hn : 3000 ≤ n) (a b : History) (h : SmallH a) : ref27_Same n a b = some (hisSame a b) := by
  unfold ref27_Same hisSame
  simp only [jn, rsame_eq n (by omega) _ _ h.begun, Option.bind_some]
  rw [ineN, ineN]
  by_cases h1 : a.schema.tables.length = b.schema.tables.length
  · rw [decide_eq_true h1]
    by_cases h2 : a.entries.length = b.entries.length
    · rw [decide_eq_true h2]
      have hl2 : ref27_Same_l2 n n (0, a, b, ()) = some (sameL entSame a.entries b.entries) := by
        show ref27_Same_l2 n n (((0 : Nat) : Int), a, b, ()) = _
        unfold ref27_Same_l2
        have he := h.entries
        refine (run_loop a.entries (fun (i : Nat) (_ : Unit) => ((i : Int), a, b, ())) (fun i x _ => if atE entSame b.entries i x then .inr () else .inl (some false)) (fun _ => some true) (fun r i q x hx hi => ?_) (fun r q => ?_) n 0 () (by omega) (by omega)).trans ?_
        · have hb := get_some (show i < b.entries.length by omega)
          simp only [lt_dec hi, cond_true, idx_nat, hx, hb, Option.bind_some, jn, rsameAns_eq n (by omega) _ _ (h.each x (List.mem_of_getElem? hx)), wrap_succ (show i < 4611686018427387904 by omega), atE]
          unfold entSame
          rw [show (x.txn != (b.entries[i]).txn) = !(x.txn == (b.entries[i]).txn) from rfl]
          cases (x.txn == (b.entries[i]).txn) <;> cases Request.eqb x.request (b.entries[i]).request <;> cases ansSame x.answer (b.entries[i]).answer <;> rfl
        · simp only [ge_dec (Nat.lt_irrefl _), cond_false]
        · rw [List.drop_zero, runL_allFrom, sameL_from b.entries a.entries 0 (by omega), List.drop_zero]
          cases sameL entSame a.entries b.entries <;> rfl
      have hl1 : ref27_Same_l1 n n (0, a, b, ()) = some (sameL Bounds.eqb a.schema.tables b.schema.tables && sameL entSame a.entries b.entries) := by
        show ref27_Same_l1 n n (((0 : Nat) : Int), a, b, ()) = _
        unfold ref27_Same_l1
        have ht := h.tables
        refine (run_loop a.schema.tables (fun (i : Nat) (_ : Unit) => ((i : Int), a, b, ())) (fun i x _ => if atE Bounds.eqb b.schema.tables i x then .inr () else .inl (some false)) (fun _ => some (sameL entSame a.entries b.entries)) (fun r i q x hx hi => ?_) (fun r q => ?_) n 0 () (by omega) (by omega)).trans ?_
        · have hb := get_some (show i < b.schema.tables.length by omega)
          simp only [lt_dec hi, cond_true, idx_nat, hx, hb, Option.bind_some, wrap_succ (show i < 4611686018427387904 by omega), atE]
          cases Bounds.eqb x b.schema.tables[i] <;> rfl
        · simp only [ge_dec (Nat.lt_irrefl _), cond_false, hl2]
        · rw [List.drop_zero, runL_allFrom, sameL_from b.schema.tables a.schema.tables 0 (by omega), List.drop_zero]
          cases sameL Bounds.eqb a.schema.tables b.schema.tables <;> rfl
      rw [hl1]
      cases sameL Bounds.eqb a.schema.tables b.schema.tables <;> cases rowsSame a.begun b.begun <;> cases sameL entSame a.entries b.entries <;> rfl
    · rw [decide_eq_false h2, sameL_len h2, Bool.and_false]; rfl
  · rw [decide_eq_false h1, sameL_len h1]; rfl
theorem rorder_eq (n : Nat) (hn : 3000 ≤ n) (h : History) (hl : h.entries.length ≤ 2100) : ref27_Order n h = some ((h.entries.filter commits).map Entry.txn) := by
  unfold ref27_Order
  show ref27_Order_l1 n n (((0 : Nat) : Int), h, ([] : List Int), ()) = _
  unfold ref27_Order_l1
  refine (run_loopI h.entries (fun (i : Nat) (s : List Int) => ((i : Int), h, s, ())) (fun _ x s => .inr (if commits x then s ++ [x.txn] else s)) (fun s => some s) (fun i s => s.length ≤ i) (fun i s x s' _ hs he => ?_) (fun r i s x hx hi hs => ?_) (fun r s _ => ?_) n 0 [] (Nat.zero_le _) (by omega) (Nat.le_refl _)).trans ?_
  · simp only [Sum.inr.injEq] at he
    subst he
    split
    · simp; omega
    · omega
  · simp only [lt_dec hi, cond_true, idx_nat, hx, Option.bind_some, jn, wrap_succ (show i < 4611686018427387904 by omega), ref27_Order_j2, app_lt (l := s) (m := [x.txn]) (b := 8) (by simp; omega) (by omega)]
    unfold commits
    cases (x.request.kind == 11) <;> cases (x.answer.err == 0) <;> rfl
  · simp only [ge_dec (Nat.lt_irrefl _), cond_false]
  · rw [List.drop_zero]
    have key : ∀ (l : List Entry) (i : Nat) (s : List Int), runL (fun _ x s => (.inr (if commits x then s ++ [x.txn] else s) : Option (List Int) ⊕ List Int)) (fun s => some s) l i s = some (s ++ (l.filter commits).map Entry.txn) := by
      intro l
      induction l with
      | nil => intro i s; simp [runL]
      | cons x l ih =>
        intro i s
        simp only [runL, ih, List.filter_cons]
        cases commits x <;> simp
    rw [key]; rfl
theorem sameInts_refl (n : Nat) (hn : 3000 ≤ n) (a : List Int) (ha : a.length ≤ 2100) : ref09_SameInts n a a = some true := by
  unfold ref09_SameInts
  rw [ineN, decide_eq_true rfl]
  show ref09_SameInts_l1 n n (a, a, ((0 : Nat) : Int), ()) = _
  unfold ref09_SameInts_l1
  refine (run_loop a (fun (i : Nat) (_ : Unit) => (a, a, (i : Int), ())) (fun i x _ => .inr ()) (fun _ => some true) (fun r i q x hx hi => ?_) (fun r q => ?_) n 0 () (by omega) (by omega)).trans ?_
  · simp only [lt_dec hi, cond_true, idx_nat, hx, Option.bind_some, wrap_succ (show i < 4611686018427387904 by omega), show (x != x) = false from by simp, cond_false]
  · simp only [ge_dec (Nat.lt_irrefl _), cond_false]
  · rw [runL_skip]
end Go.Proofs.Ytegnflodgnfffaa
