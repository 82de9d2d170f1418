/- Escrows: which may be, who may add. -/
import Derived.Test.YtfidbgcdjmhjnaaEscA
import Derived.Test.YtfidbgcdjmhjnaaLst6
namespace Go.Proofs.Ytfidbgcdjmhjnaa
open Go.Bur
set_option linter.unusedSimpArgs false
set_option linter.unusedVariables false
set_option maxRecDepth 100000

/-! ### Which may be -/
def keyB (k : Key) : Bool := decide (0 ≤ k.table ∧ k.table < 3)
def txnB (t : Int) : Bool := decide (1 ≤ t ∧ t ≤ 1073741824)
def shareOk (s : Share) : Bool := txnB s.txn && decide (s.lo ≤ 0 ∧ s.lo ≤ s.sum ∧ s.sum ≤ s.hi ∧ 0 ≤ s.hi)
def ltT (a b : Share) : Bool := decide (a.txn < b.txn)
def rightP (p : Pending) : Bool := keyB p.key && decide (1 ≤ p.shares.length ∧ p.shares.length ≤ 8) && chainB shareOk ltT none p.shares && fits (lowZ p) && fits (highZ p)
def ltK (p q : Pending) : Bool := decide (cmpK p.key q.key < 0)
def rightE (l : List Pending) : Bool := decide (l.length ≤ 60) && chainB rightP ltK none l
theorem key_eq (n : Nat) (k : Key) : escrow_key n k = some (keyB k) := by
  unfold escrow_key keyB
  rw [jn_and]
  congr 1
  rw [Bool.eq_iff_iff]
  simp only [Bool.and_eq_true, decide_eq_true_iff, ge_iff_le]
theorem rkey_eq (n : Nat) (k : Key) : ref10_key n k = some (keyB k) := by
  unfold ref10_key keyB
  rw [jn_and]
  congr 1
  rw [Bool.eq_iff_iff]
  simp only [Bool.and_eq_true, decide_eq_true_iff, ge_iff_le]
theorem txn_eq (n : Nat) (t : Int) : escrow_txn n t = some (txnB t) := by
  unfold escrow_txn txnB
  rw [jn_and]
  congr 1
  rw [Bool.eq_iff_iff]
  simp only [Bool.and_eq_true, decide_eq_true_iff, ge_iff_le]
def lastT : Option Share → Int
  | none => 0
  | some y => y.txn
def rightS (x : Share) (s : Bool × Int) : Bool × Int := (s.1 && txnB x.txn && decide (x.txn > s.2) && decide (x.lo ≤ if x.sum < 0 then x.sum else 0) && decide (x.hi ≥ if x.sum > 0 then x.sum else 0), x.txn)
theorem right_run : ∀ (l : List Share) (o : Option Share) (b : Bool), (l.foldl (fun s x => rightS x s) (b, lastT o)).1 = (b && chainB shareOk ltT o l)
  | [], o, b => by simp [chainB]
  | x :: t, o, b => by
    rw [List.foldl_cons]
    have h1 : (x.lo ≤ if x.sum < 0 then x.sum else 0) ↔ (x.lo ≤ 0 ∧ x.lo ≤ x.sum) := by split <;> omega
    have h2 : (x.hi ≥ if x.sum > 0 then x.sum else 0) ↔ (x.sum ≤ x.hi ∧ 0 ≤ x.hi) := by split <;> omega
    have e : rightS x (b, lastT o) = (b && (shareOk x && prevOk ltT x o), lastT (some x)) := by
      unfold rightS shareOk
      refine Prod.ext ?_ rfl
      rw [Bool.eq_iff_iff]
      simp only [Bool.and_eq_true, decide_eq_true_iff, h1, h2]
      unfold txnB
      cases o with
      | none => cases b <;> simp only [prevOk, lastT, decide_eq_true_iff, Bool.false_eq_true, false_and, true_and, and_true] <;> omega
      | some y => cases b <;> simp only [prevOk, lastT, ltT, decide_eq_true_iff, Bool.false_eq_true, false_and, true_and, and_true] <;> omega
    rw [e, right_run t (some x)]
    simp only [chainB, Bool.and_assoc]
section
variable {n : Nat} {p : Pending}
theorem right_eqP (hn : 1003 ≤ n) (hp : PendIn p) (hl : p.shares.length ≤ 98) : escrow_right n p = some (rightP p) := by
  have h1 : ∀ b, escrow_right_l1 n n (b, 0, p.shares, (p.shares.length : Int), 0, p, ()) = some (b && chainB shareOk ltT none p.shares && fits (lowZ p) && fits (highZ p)) := fun b => by
    show escrow_right_l1 n n (b, lastT none, p.shares, (p.shares.length : Int), ((0 : Nat) : Int), p, ()) = _
    unfold escrow_right_l1
    refine (run_loop p.shares (fun (i : Nat) (s : Bool × Int) => (s.1, s.2, p.shares, (p.shares.length : Int), (i : Int), p, ())) (fun _ x s => .inr (rightS x s)) (fun s => some (s.1 && fits (lowZ p) && fits (highZ p))) (fun r i s x hx hi => ?_) (fun r s => ?_) n 0 (b, lastT none) (Nat.zero_le _) (by omega)).trans ?_
    · obtain ⟨b, a⟩ := s
      simp only [lt_dec hi, cond_true, idx_nat, hx, Option.bind_some, txn_eq, jn_and, jn_id, wrap_succ (show i < 4611686018427387904 by omega), rightS]
    · obtain ⟨b, a⟩ := s
      simp only [ge_dec (Nat.lt_irrefl _), cond_false, end_low hn hp hl, end_high hn hp hl, Option.bind_some, small_eq n _ (low_rng hp (by omega)), small_eq n _ (high_rng hp (by omega)), jn]
      cases b <;> cases fits (lowZ p) <;> simp
    · rw [List.drop_zero, runL_fold, right_run]
  unfold escrow_right rightP
  rw [key_eq]
  simp only [Option.bind_some, jn, h1]
  have e1 : decide ((p.shares.length : Int) > 0) = decide (1 ≤ p.shares.length) := by
    rw [Bool.eq_iff_iff]; simp only [decide_eq_true_iff]; omega
  have e2 : decide ((p.shares.length : Int) ≤ 8) = decide (p.shares.length ≤ 8) := by
    rw [Bool.eq_iff_iff]; simp only [decide_eq_true_iff]; omega
  rw [e1, e2]
  cases keyB p.key <;> cases h3 : decide (1 ≤ p.shares.length) <;> cases h4 : decide (p.shares.length ≤ 8) <;> simp only [cond_true, cond_false, Bool.false_and, Bool.true_and] <;> simp at h3 h4 <;> simp [h3, h4]
  all_goals omega
theorem rrightP_eq (hn : 1003 ≤ n) (hp : PendIn p) (hl : p.shares.length ≤ 98) : ref10_RightPending n p = some (rightP p) := by
  have h1 : ref10_RightPending_l1 n n (p.shares, (p.shares.length : Int), 0, p, ()) = some (chainB shareOk ltT none p.shares && fits (lowZ p) && fits (highZ p)) := by
    show ref10_RightPending_l1 n n (p.shares, (p.shares.length : Int), ((0 : Nat) : Int), p, ()) = _
    unfold ref10_RightPending_l1
    refine (run_loop p.shares (fun (i : Nat) (_ : Unit) => (p.shares, (p.shares.length : Int), (i : Int), p, ())) (fun i x _ => if stepA shareOk ltT p.shares i x then .inr () else .inl (some false)) (fun _ => some (fits (lowZ p) && fits (highZ p))) (fun r i s x hx hi => ?_) (fun r s => ?_) n 0 () (Nat.zero_le _) (by omega)).trans ?_
    · simp only [lt_dec hi, cond_true, idx_nat, hx, Option.bind_some, jn, wrap_succ (show i < 4611686018427387904 by omega)]
      have key : stepA shareOk ltT p.shares i x = (decide (1 ≤ x.txn) && decide (x.txn ≤ 1073741824) && prevOk ltT x (prevO p.shares i) && decide (x.lo ≤ 0) && decide (0 ≤ x.hi) && decide (x.lo ≤ x.sum) && decide (x.sum ≤ x.hi)) := by
        unfold stepA shareOk txnB
        rw [Bool.eq_iff_iff]
        simp only [Bool.and_eq_true, decide_eq_true_iff]
        constructor
        · rintro ⟨⟨⟨a1, a2⟩, a3, a4, a5, a6⟩, a7⟩; exact ⟨⟨⟨⟨⟨⟨a1, a2⟩, a7⟩, a3⟩, a6⟩, a4⟩, a5⟩
        · rintro ⟨⟨⟨⟨⟨⟨a1, a2⟩, a7⟩, a3⟩, a6⟩, a4⟩, a5⟩; exact ⟨⟨⟨a1, a2⟩, a3, a4, a5, a6⟩, a7⟩
      rw [key]
      have n1 : ∀ (a b : Int), decide (a < b) = !decide (b ≤ a) := fun a b => by rw [Bool.eq_iff_iff]; simp only [Bool.not_eq_true', decide_eq_true_iff, decide_eq_false_iff_not]; omega
      simp only [gt_iff_lt, n1]
      have tail : ∀ (b : Bool), cond (!decide (1 ≤ x.txn)) (cond b (some false) (r (p.shares, (p.shares.length : Int), ((i + 1 : Nat) : Int), p, ()))) (cond b (some false) (r (p.shares, (p.shares.length : Int), ((i + 1 : Nat) : Int), p, ()))) = cond b (some false) (r (p.shares, (p.shares.length : Int), ((i + 1 : Nat) : Int), p, ())) := fun b => by cases decide (1 ≤ x.txn) <;> rfl
      cases i with
      | zero =>
        simp only [show (!decide (((0 : Nat) : Int) ≤ 0)) = false from rfl, cond_false, prevOk, prevO]
        cases decide (1 ≤ x.txn) <;> cases decide (x.txn ≤ 1073741824) <;> cases decide (x.lo ≤ 0) <;> cases decide (0 ≤ x.hi) <;> cases decide (x.lo ≤ x.sum) <;> cases decide (x.sum ≤ x.hi) <;> rfl
      | succ j =>
        simp only [decide_eq_false (show ¬ ((j + 1 : Nat) : Int) ≤ 0 by omega), Bool.not_false, cond_true, wrap_pred (show j < 4611686018427387904 by omega), idx_nat, get_some (show j < p.shares.length by omega), Option.bind_some, prevOk, prevO, ltT, ge_iff_le, n1]
        cases decide (1 ≤ x.txn) <;> cases decide (x.txn ≤ 1073741824) <;> cases decide (x.txn ≤ (p.shares[j]).txn) <;> cases decide (x.lo ≤ 0) <;> cases decide (0 ≤ x.hi) <;> cases decide (x.lo ≤ x.sum) <;> cases decide (x.sum ≤ x.hi) <;> rfl
    · simp only [ge_dec (Nat.lt_irrefl _), cond_false, ends_eq hn hp hl, Option.bind_some, rsmall_eq n _ (low_rng hp (by omega)), rsmall_eq n _ (high_rng hp (by omega)), jn]
      cases fits (lowZ p) <;> rfl
    · rw [List.drop_zero, runL_allFrom, allFrom_chain]
      cases chainB shareOk ltT none p.shares <;> simp
  unfold ref10_RightPending rightP
  rw [rkey_eq]
  simp only [Option.bind_some, jn, h1]
  have e1 : decide ((p.shares.length : Int) < 1) = !decide (1 ≤ p.shares.length) := by
    rw [Bool.eq_iff_iff]; simp only [Bool.not_eq_true', decide_eq_true_iff, decide_eq_false_iff_not]; omega
  have e2 : decide ((p.shares.length : Int) > 8) = !decide (p.shares.length ≤ 8) := by
    rw [Bool.eq_iff_iff]; simp only [Bool.not_eq_true', decide_eq_true_iff, decide_eq_false_iff_not]; omega
  have e3 : decide (1 ≤ p.shares.length ∧ p.shares.length ≤ 8) = (decide (1 ≤ p.shares.length) && decide (p.shares.length ≤ 8)) := by
    rw [Bool.eq_iff_iff]; simp only [Bool.and_eq_true, decide_eq_true_iff]
  rw [e1, e2, e3]
  cases keyB p.key <;> cases decide (1 ≤ p.shares.length) <;> cases decide (p.shares.length ≤ 8) <;> simp
end
theorem byKey_eq (n : Nat) (hn : 3 ≤ n) (p : Pending) (k : Key) : escrow_byKey n p k = some (cmpK p.key k) := by
  unfold escrow_byKey
  rw [compare_eq n hn]; rfl
def KeyIn (k : Key) : Prop := 0 ≤ k.id ∧ k.id ≤ 65535
theorem order_eq (n : Nat) {a b : Key} (ha : keyB a = true) (hb : keyB b = true) (ia : KeyIn a) (ib : KeyIn b) : ref10_order n a b = some (cmpK a b) := by
  unfold ref10_order
  have ha := of_decide_eq_true ha
  have hb := of_decide_eq_true hb
  obtain ⟨i1, i2⟩ := ia
  obtain ⟨i3, i4⟩ := ib
  have hr := cmpK_rng a b
  have hl := cmpK_lt (a := a) (b := b)
  have hg := cmpK_lt (a := b) (b := a)
  have hn := cmpK_neg (a := a) (b := b)
  rw [wrap_in (x := a.table * 65536) (by omega), wrap_in (x := b.table * 65536) (by omega), wrap_in (x := a.id) (by omega), wrap_in (x := b.id) (by omega), wrap_in (x := a.table * 65536 + a.id) (by omega), wrap_in (x := b.table * 65536 + b.id) (by omega)]
  by_cases h1 : a.table * 65536 + a.id < b.table * 65536 + b.id
  · rw [decide_eq_true h1]
    have := hl.2 (by omega)
    show some (-1) = _
    congr 1; omega
  · rw [decide_eq_false h1]
    by_cases h2 : a.table * 65536 + a.id > b.table * 65536 + b.id
    · rw [decide_eq_true h2]
      have := hg.2 (by omega)
      show some 1 = _
      congr 1; omega
    · rw [decide_eq_false h2]
      have h3 : ¬ cmpK a b < 0 := fun e => by have := hl.1 e; omega
      have h4 : ¬ cmpK b a < 0 := fun e => by have := hg.1 e; omega
      show some 0 = _
      congr 1; omega
/-- What is known of an escrow's numbers, and how much of it there is. -/
def EscIn (l : List Pending) : Prop := ∀ p ∈ l, PendIn p ∧ KeyIn p.key ∧ p.shares.length ≤ 9
theorem rightP_key {p : Pending} (h : rightP p = true) : keyB p.key = true := by
  unfold rightP at h
  simp only [Bool.and_eq_true] at h
  exact h.1.1.1.1
section
variable {n : Nat} {l : List Pending}
theorem echeck_eq (hn : 1003 ≤ n) (h : EscIn l) (hl : l.length ≤ 61) : escrow_Check n ⟨l⟩ = some (if rightE l then 0 else 200) := by
  have h1 : escrow_Check_l1 n n (l, (l.length : Int), 0, ⟨l⟩, ()) = some (if chainB rightP ltK none l then 0 else 200) := by
    show escrow_Check_l1 n n (l, (l.length : Int), ((0 : Nat) : Int), ⟨l⟩, ()) = _
    unfold escrow_Check_l1
    refine (run_loop l (fun (i : Nat) (_ : Unit) => (l, (l.length : Int), (i : Int), Escrow.mk l, ())) (fun i x _ => if stepA rightP ltK l i x then .inr () else .inl (some 200)) (fun _ => some 0) (fun r i s x hx hi => ?_) (fun r s => ?_) n 0 () (Nat.zero_le _) (by omega)).trans ?_
    · obtain ⟨a1, a2, a3⟩ := h x (List.mem_of_getElem? hx)
      simp only [lt_dec hi, cond_true, idx_nat, hx, Option.bind_some, jn, right_eqP hn a1 (by omega), wrap_succ (show i < 4611686018427387904 by omega)]
      unfold stepA
      cases i with
      | zero => 
        simp only [show decide (((0 : Nat) : Int) > 0) = false from rfl, cond_false, prevOk, prevO]
        cases rightP x <;> rfl
      | succ j =>
        simp only [decide_eq_true (show ((j + 1 : Nat) : Int) > 0 by omega), cond_true, wrap_pred (show j < 4611686018427387904 by omega), idx_nat, get_some (show j < l.length by omega), Option.bind_some, byKey_eq n (show 3 ≤ n by omega), prevOk, prevO, ltK, ge_lt]
        cases rightP x <;> cases decide (cmpK (l[j]).key x.key < 0) <;> rfl
    · simp only [ge_dec (Nat.lt_irrefl _), cond_false]
    · rw [List.drop_zero, runL_allFrom, allFrom_chain]
      cases chainB rightP ltK none l <;> simp
  unfold escrow_Check rightE
  simp only [h1]
  by_cases h2 : l.length ≤ 60
  · rw [decide_eq_true h2, decide_eq_false (by omega : ¬ (l.length : Int) > 60)]; rfl
  · rw [decide_eq_false h2, decide_eq_true (by omega : (l.length : Int) > 60)]; rfl
theorem rright_eq (hn : 1003 ≤ n) (h : EscIn l) (hl : l.length ≤ 61) : ref10_Right n ⟨l⟩ = some (rightE l) := by
  have h1 : ref10_Right_l1 n n (l, (l.length : Int), 0, ⟨l⟩, ()) = some (chainB rightP ltK none l) := by
    show ref10_Right_l1 n n (l, (l.length : Int), ((0 : Nat) : Int), ⟨l⟩, ()) = _
    unfold ref10_Right_l1
    refine (run_loopI l (fun (i : Nat) (_ : Unit) => (l, (l.length : Int), (i : Int), Escrow.mk l, ())) (fun i x _ => if stepA rightP ltK l i x then .inr () else .inl (some false)) (fun _ => some true) (fun i _ => ∀ j x, j < i → l[j]? = some x → rightP x = true) (fun i s x s' hx hI hs => ?_) (fun r i s x hx hi hI => ?_) (fun r s _ => ?_) n 0 () (Nat.zero_le _) (by omega) (fun j x hj => by omega)).trans ?_
    · intro j y hj hy
      by_cases h0 : stepA rightP ltK l i x = true
      · rcases Nat.lt_or_ge j i with h2 | h2
        · exact hI j y h2 hy
        · obtain rfl : j = i := by omega
          rw [hx] at hy
          obtain rfl := Option.some.inj hy
          unfold stepA at h0
          simp only [Bool.and_eq_true] at h0
          exact h0.1
      · rw [if_neg h0] at hs; cases hs
    · obtain ⟨a1, a2, a3⟩ := h x (List.mem_of_getElem? hx)
      simp only [lt_dec hi, cond_true, idx_nat, hx, Option.bind_some, jn, rrightP_eq hn a1 (by omega), wrap_succ (show i < 4611686018427387904 by omega)]
      unfold stepA
      cases i with
      | zero => 
        simp only [show decide (((0 : Nat) : Int) > 0) = false from rfl, cond_false, prevOk, prevO]
        cases rightP x <;> rfl
      | succ j =>
        cases hx1 : rightP x with
        | false => rfl
        | true =>
          have hj := hI j l[j] (by omega) (get_some (by omega))
          obtain ⟨b1, b2, b3⟩ := h l[j] (List.getElem_mem _)
          simp only [decide_eq_true (show ((j + 1 : Nat) : Int) > 0 by omega), cond_true, wrap_pred (show j < 4611686018427387904 by omega), idx_nat, get_some (show j < l.length by omega), Option.bind_some, order_eq n (rightP_key hj) (rightP_key hx1) b2 a2, prevOk, prevO, ltK, ge_lt]
          cases decide (cmpK (l[j]).key x.key < 0) <;> rfl
    · simp only [ge_dec (Nat.lt_irrefl _), cond_false]
    · rw [List.drop_zero, runL_allFrom, allFrom_chain]
      cases chainB rightP ltK none l <;> simp
  unfold ref10_Right rightE
  simp only [h1]
  by_cases h2 : l.length ≤ 60
  · rw [decide_eq_true h2, decide_eq_false (by omega : ¬ (l.length : Int) > 60)]; rfl
  · rw [decide_eq_false h2, decide_eq_true (by omega : (l.length : Int) > 60)]; rfl
end
end Go.Proofs.Ytfidbgcdjmhjnaa
