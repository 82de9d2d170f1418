/- Escrows: a transaction adds to a pending key. -/
import Derived.Test.YtfidbgcdjmhjnaaEscB
namespace Go.Proofs.Ytfidbgcdjmhjnaa
open Go.Bur
set_option linter.unusedSimpArgs false
set_option linter.unusedVariables false
set_option maxRecDepth 100000

/-! ### Numbers compared -/
theorem compare_i64 (n : Nat) (a b : Int) : cmp_Compare_int64 n a b = some (cmpI a b) := by
  unfold cmp_Compare_int64 cmp_isNaN_int64 cmpI
  by_cases h1 : a < b
  · simp [h1]
  · by_cases h2 : a > b
    · simp [h1, h2]
    · simp [h1, h2]
theorem compare_u64 (n : Nat) (a b : Int) : cmp_Compare_uint64 n a b = some (cmpI a b) := by
  unfold cmp_Compare_uint64 cmp_isNaN_uint64 cmpI
  by_cases h1 : a < b
  · simp [h1]
  · by_cases h2 : a > b
    · simp [h1, h2]
    · simp [h1, h2]
theorem wcompare (n : Nat) (hn : 3 ≤ n) (a b : Int) : escrow_wide_compare n (wideOf a) (wideOf b) = some (cmpI a b) := by
  unfold escrow_wide_compare wideOf
  simp only [compare_i64, compare_u64, Option.bind_some, or2 n hn]
  congr 1
  unfold cmpI
  split
  · split <;> (try split) <;> omega
  · split <;> (try split) <;> (try split) <;> (try split) <;> omega
theorem above_eq (n : Nat) (a b : Int) : ref10_Above n (bigOf a) (bigOf b) = some (decide (a > b)) := by
  unfold ref10_Above bigOf
  simp only [jn]
  by_cases h1 : a / 4294967296 > b / 4294967296
  · rw [decide_eq_true h1, decide_eq_true (show a > b by omega)]; rfl
  · rw [decide_eq_false h1, cond_false]
    by_cases h2 : a / 4294967296 = b / 4294967296
    · rw [show (a / 4294967296 == b / 4294967296) = true from by rw [h2]; simp, cond_true]
      congr 1
      rw [Bool.eq_iff_iff]; simp only [decide_eq_true_iff]; omega
    · rw [show (a / 4294967296 == b / 4294967296) = false from by simpa using h2, cond_false, decide_eq_false (show ¬ a > b by omega)]

/-! ### A share's place -/
abbrev cT (t : Int) : Share → Int := fun s => cmpI s.txn t
theorem cutT {l : List Share} (t : Int) {o : Option Share} (h : chainB shareOk ltT o l = true) : ∃ A y B, Cut (cT t) l A y B := by
  refine cut_ex ?_
  have h1 := ((chain_iff (fun a b c h k => by unfold ltT at *; rw [decide_eq_true_iff] at *; omega)).1 h).2.1
  refine h1.imp fun {a b} hab ha => ?_
  unfold ltT at hab
  rw [decide_eq_true_iff] at hab
  unfold cT at *
  unfold cmpI at *
  split at ha
  · omega
  · split <;> (try split) <;> omega
theorem byTxn_eq (n : Nat) (s : Share) (t : Int) : escrow_byTxn n s t = some (cT t s) := by
  unfold escrow_byTxn
  rw [compare_int]; rfl
theorem ssearch {n : Nat} (hn : 1003 ≤ n) {l A B : List Share} {y : Option Share} {t : Int} (h : Cut (cT t) l A y B) (hl : l.length ≤ 1000) :
    slices_BinarySearchFunc_int_f65 n l t = some ((A.length : Int), y.isSome) := by
  have hlen := cut_len h
  show slices_BinarySearchFunc_int_f65_l1 n n (l, t, (l.length : Int), ((0 : Nat) : Int), (l.length : Int), ()) = _
  unfold slices_BinarySearchFunc_int_f65_l1
  refine bsearch (fun (i j : Nat) => (l, t, (l.length : Int), (i : Int), (j : Int), ())) A.length l.length _ (fun r i j hij hj hA => ?_) (fun r i j hij hj hA => ?_) (fun r => ?_) n 0 l.length (Nat.zero_le _) (by omega) (Nat.le_refl _) (by omega)
  · have e : ((i : Int) + (j : Int)) = ((i + j : Nat) : Int) := by omega
    obtain ⟨e1, e2⟩ := half_eq (x := i + j) (by omega)
    have := cut_lt h (show (i + j) / 2 < l.length by omega) hA
    simp only [lt_dec hij, cond_true, e, e1, Option.bind_some, e2, idx_nat, get_some (show (i + j) / 2 < l.length by omega), byTxn_eq n, jn, slices_BinarySearchFunc_int_f65_j2, decide_eq_true this, wrap_succ (show (i + j) / 2 < 4611686018427387904 by omega)]
  · have e : ((i : Int) + (j : Int)) = ((i + j : Nat) : Int) := by omega
    obtain ⟨e1, e2⟩ := half_eq (x := i + j) (by omega)
    have := cut_ge h (show (i + j) / 2 < l.length by omega) hA
    simp only [lt_dec hij, cond_true, e, e1, Option.bind_some, e2, idx_nat, get_some (show (i + j) / 2 < l.length by omega), byTxn_eq n, jn, slices_BinarySearchFunc_int_f65_j2, decide_eq_false this, cond_false]
  · simp only [ge_dec (Nat.lt_irrefl _), cond_false, jn]
    by_cases hA : A.length < l.length
    · simp only [lt_dec hA, cond_true, idx_nat, get_some hA, Option.bind_some, byTxn_eq n, cut_at h hA]
    · rw [ge_dec hA, cut_end h hA]; rfl

/-! ### Adding -/
def ownS (t : Int) (y : Option Share) : Share := y.getD ⟨t, 0, 0, 0⟩
def newS (o : Share) (x : Int) : Share := ⟨o.txn, x, if x > o.hi then x else o.hi, if x < o.lo then x else o.lo⟩
def addTo (p : Pending) (A B : List Share) (o : Share) : Pending := ⟨p.key, p.value, A ++ o :: B⟩
def overB (p : Pending) (b : Bounds) : Bool := decide (lowZ p < b.min) || decide (highZ p > b.max)
def addErr (p : Pending) (t d : Int) (b : Bounds) (A : List Share) (y : Option Share) (B : List Share) : Int :=
  if !txnB t || decide (b.min > b.max) then 2
  else if !y.isSome && decide (8 ≤ p.shares.length) then 6
  else if !fits ((ownS t y).sum + d) then 152
  else if overB (addTo p A B (newS (ownS t y) ((ownS t y).sum + d))) b then 152 else 0
def ShIn (s : Share) : Prop := I64 s.lo ∧ I64 s.sum ∧ I64 s.hi
theorem newS_in {o : Share} {x : Int} (h : ShIn o) (hx : I64 x) : ShIn (newS o x) := by
  obtain ⟨h1, h2, h3⟩ := h
  unfold newS ShIn
  refine ⟨?_, hx, ?_⟩
  · simp only; split <;> assumption
  · simp only; split <;> assumption
section
variable {n : Nat} {p : Pending} {t d : Int} {b : Bounds} {A B : List Share} {y : Option Share}
theorem own_in (hp : PendIn p) (hc : Cut (cT t) p.shares A y B) : ShIn (ownS t y) := by
  unfold ownS
  cases y with
  | none => exact ⟨show I64 0 by decide, show I64 0 by decide, show I64 0 by decide⟩
  | some s => exact hp.2 s (by rw [hc.eq]; simp)
theorem addTo_in {o : Share} (hp : PendIn p) (hc : Cut (cT t) p.shares A y B) (ho : ShIn o) : PendIn (addTo p A B o) := by
  refine ⟨hp.1, fun s hs => ?_⟩
  rcases List.mem_append.1 hs with hs | hs
  · exact hp.2 s (by rw [hc.eq]; simp [hs])
  · rcases List.mem_cons.1 hs with rfl | hs
    · exact ho
    · exact hp.2 s (by rw [hc.eq]; simp [hs])
theorem fits_i64 {z : Int} (h : fits z = true) : I64 z := of_decide_eq_true h
theorem sum2 (hn : 1003 ≤ n) {a c : Int} (ha : I64 a) (hc : I64 c) : escrow_sum n [a, c] = some (wideOf (a + c)) := by
  rw [esum_eq n hn [a, c] (by simp) (fun x hx => by
    rcases List.mem_cons.1 hx with rfl | hx
    · exact ha
    · obtain rfl := List.mem_singleton.1 hx; exact hc)]
  simp
theorem adds_j1 (hn : 1003 ≤ n) {o : Share} (hp : PendIn p) (hc : Cut (cT t) p.shares A y B) (hl : p.shares.length ≤ 90) (ho : ShIn o) (hd : I64 d) (hb : I64 b.min ∧ I64 b.max) :
    ∃ l', escrow_adds_j1 n (d, (A.length : Int), p.key.table, p.key.id, p.value, b, A ++ o :: B, ()) = some (if !fits (o.sum + d) then 152 else if overB (addTo p A B (newS o (o.sum + d))) b then 152 else 0, p.key.table, p.key.id, p.value, l') ∧ ((fits (o.sum + d) && !overB (addTo p A B (newS o (o.sum + d))) b) = true → l' = A ++ newS o (o.sum + d) :: B) := by
  obtain ⟨ho1, ho2, ho3⟩ := ho
  unfold escrow_adds_j1
  have hr : -9223372036854775808000000 ≤ o.sum + d ∧ o.sum + d ≤ 9223372036854775808000000 := by omega
  simp only [idx_app, Option.bind_some, sum2 hn ho2 hd, small_eq n _ hr]
  cases hf : fits (o.sum + d) with
  | false => exact ⟨_, rfl, fun h => by cases h⟩
  | true =>
    have hx := fits_i64 hf
    have hlen := cut_len hc
    have hin := addTo_in hp hc (newS_in (o := o) ⟨ho1, ho2, ho3⟩ hx)
    have hlen2 : (addTo p A B (newS o (o.sum + d))).shares.length ≤ 98 := by simp [addTo]; omega
    simp only [Bool.not_true, cond_false, fits_val hf, put_app, idx_app, Option.bind_some, Bool.false_eq_true, if_false]
    have e1 := end_low hn hin hlen2
    have e2 := end_high hn hin hlen2
    unfold addTo newS at e1 e2
    have e1' : ∀ k : Key, k = p.key → escrow_end_f48 n ⟨k, p.value, A ++ ⟨o.txn, o.sum + d, if o.sum + d > o.hi then o.sum + d else o.hi, if o.sum + d < o.lo then o.sum + d else o.lo⟩ :: B⟩ = some (wideOf (lowZ (addTo p A B (newS o (o.sum + d))))) := fun k hk => by rw [hk]; exact e1
    have e2' : ∀ k : Key, k = p.key → escrow_end_f51 n ⟨k, p.value, A ++ ⟨o.txn, o.sum + d, if o.sum + d > o.hi then o.sum + d else o.hi, if o.sum + d < o.lo then o.sum + d else o.lo⟩ :: B⟩ = some (wideOf (highZ (addTo p A B (newS o (o.sum + d))))) := fun k hk => by rw [hk]; exact e2
    rw [e1' _ rfl, e2' _ rfl]
    simp only [Option.bind_some, eof_eq n hb.1, eof_eq n hb.2, wcompare n (show 3 ≤ n by omega), jn_or]
    refine ⟨A ++ newS o (o.sum + d) :: B, ?_, fun _ => rfl⟩
    · unfold overB
      have g1 : decide (cmpI (lowZ (addTo p A B (newS o (o.sum + d)))) b.min < 0) = decide (lowZ (addTo p A B (newS o (o.sum + d))) < b.min) := decide_eq_decide.2 cmpI_lt
      have g2 : decide (cmpI (highZ (addTo p A B (newS o (o.sum + d)))) b.max > 0) = decide (highZ (addTo p A B (newS o (o.sum + d))) > b.max) := decide_eq_decide.2 (by unfold cmpI; split <;> (try split) <;> omega)
      rw [g1, g2]
      cases decide (lowZ (addTo p A B (newS o (o.sum + d))) < b.min) <;> cases decide (highZ (addTo p A B (newS o (o.sum + d))) > b.max) <;> rfl
theorem adds_eq (hn : 1003 ≤ n) (hp : PendIn p) (hc : Cut (cT t) p.shares A y B) (hl : p.shares.length ≤ 90) (hd : I64 d) (hb : I64 b.min ∧ I64 b.max) :
    ∃ l', escrow_adds n t d b p.key.table p.key.id p.value p.shares = some (addErr p t d b A y B, p.key.table, p.key.id, p.value, l') ∧ (addErr p t d b A y B = 0 → l' = A ++ newS (ownS t y) ((ownS t y).sum + d) :: B) := by
  unfold escrow_adds
  simp only [txn_eq, Option.bind_some, jn_or]
  unfold addErr
  cases h1 : (!txnB t || decide (b.min > b.max)) with
  | true => exact ⟨_, rfl, fun h => by cases h⟩
  | false =>
    simp only [cond_false, ssearch hn hc (show p.shares.length ≤ 1000 by omega), Option.bind_some, jn, Bool.false_eq_true, if_false]
    have e8 : decide ((p.shares.length : Int) ≥ 8) = decide (8 ≤ p.shares.length) := decide_eq_decide.2 (by omega)
    rw [e8]
    obtain ⟨l', g1, g2⟩ := adds_j1 (n := n) hn hp hc hl (own_in hp hc) hd hb
    have fin : ∃ l', escrow_adds_j1 n (d, (A.length : Int), p.key.table, p.key.id, p.value, b, A ++ ownS t y :: B, ()) = some (if !fits ((ownS t y).sum + d) then 152 else if overB (addTo p A B (newS (ownS t y) ((ownS t y).sum + d))) b then 152 else 0, p.key.table, p.key.id, p.value, l') ∧ ((if !fits ((ownS t y).sum + d) then (152 : Int) else if overB (addTo p A B (newS (ownS t y) ((ownS t y).sum + d))) b then 152 else 0) = 0 → l' = A ++ newS (ownS t y) ((ownS t y).sum + d) :: B) := by
      refine ⟨l', g1, fun h => g2 ?_⟩
      cases hf : fits ((ownS t y).sum + d) <;> rw [hf] at h
      · simp at h
      · cases ho : overB (addTo p A B (newS (ownS t y) ((ownS t y).sum + d))) b <;> rw [ho] at h
        · rfl
        · simp at h
    cases y with
    | some s =>
      have e : p.shares = A ++ ownS t (some s) :: B := hc.eq
      simp only [Option.isSome_some, Bool.not_true, cond_false, Bool.false_and, Bool.false_eq_true, if_false]
      rw [show escrow_adds_j1 n (d, (A.length : Int), p.key.table, p.key.id, p.value, b, p.shares, ()) = escrow_adds_j1 n (d, (A.length : Int), p.key.table, p.key.id, p.value, b, A ++ ownS t (some s) :: B, ()) from by rw [← e]]
      exact fin
    | none =>
      simp only [Option.isSome_none, Bool.not_false, cond_true, Bool.true_and]
      cases h8 : decide (8 ≤ p.shares.length) with
      | true => exact ⟨_, rfl, fun h => by simp at h⟩
      | false =>
        have hi : slices_Insert_Share n (A.length : Int) p.shares [Share.mk t 0 0 0] = some (A ++ ownS t none :: B) := insL_cut hc _ (by omega) (by decide)
        simp only [cond_false, hi, Option.bind_some, Bool.false_eq_true, if_false]
        exact fin
end
end Go.Proofs.Ytfidbgcdjmhjnaa
