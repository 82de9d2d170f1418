/- Escrows: what Add, Back and Over come to, as the document says. -/
import Derived.Test.YtfidbgcdjmhjnaaEscE
namespace Go.Proofs.Ytfidbgcdjmhjnaa
open Go.Bur
set_option linter.unusedSimpArgs false
set_option linter.unusedVariables false
set_option maxRecDepth 100000

def AddIn (a : Adding) : Prop := I64 a.by_ ∧ I64 a.now ∧ I64 a.bounds.min ∧ I64 a.bounds.max
def pendOf (k : Key) (a : Adding) (y : Option Pending) : Pending := y.getD ⟨k, a.now, []⟩
section
variable {n : Nat} {l A B : List Pending} {y : Option Pending} {k : Key}
theorem escOk_key (h : EscOk l) (hi : EscIn l) : ∀ x ∈ l, keyB x.key = true ∧ KeyIn x.key := fun x hx => ⟨rightP_key (h.each x hx), (hi x hx).2.1⟩
theorem pend_in (hi : EscIn l) (hc : Cut (cK k) l A y B) {a : Adding} (ha : AddIn a) : PendIn (pendOf k a y) ∧ (pendOf k a y).shares.length ≤ 9 ∧ (pendOf k a y).key = k := by
  unfold pendOf
  cases y with
  | none => exact ⟨⟨ha.2.1, fun s hs => by cases hs⟩, by simp, rfl⟩
  | some p =>
    have hp : p ∈ l := by rw [hc.eq]; simp
    exact ⟨(hi p hp).1, (hi p hp).2.2, cmpK_zero.1 (hc.mid p rfl)⟩
theorem pend_cut (h : EscOk l) (hc : Cut (cK k) l A y B) (a : Adding) : ∃ A' y' B', Cut (cT a.txn) (pendOf k a y).shares A' y' B' := by
  unfold pendOf
  cases y with
  | none => exact ⟨[], none, [], ⟨rfl, by simp, by simp, by simp⟩⟩
  | some p => exact cutT a.txn (rightP_chain (h.each p (by rw [hc.eq]; simp)))
/-- What comes of an Add. -/
def addNo (l : List Pending) (k : Key) (a : Adding) (y : Option Pending) (A' : List Share) (y' : Option Share) (B' : List Share) : Int :=
  if !keyB k then 2 else if !y.isSome && decide (60 ≤ l.length) then 6 else addErr (pendOf k a y) a.txn a.by_ a.bounds A' y' B'
def addTo' (k : Key) (a : Adding) (y : Option Pending) (A' : List Share) (y' : Option Share) (B' : List Share) : Pending := addTo (pendOf k a y) A' B' (newS (ownS a.txn y') ((ownS a.txn y').sum + a.by_))
theorem add_eq (hn : 1003 ≤ n) (h : EscOk l) (hi : EscIn l) (hc : Cut (cK k) l A y B) {a : Adding} (ha : AddIn a) {A' B' : List Share} {y' : Option Share} (hc' : Cut (cT a.txn) (pendOf k a y).shares A' y' B') :
    escrow_Add n ⟨l⟩ k a = some (addNo l k a y A' y' B', if addNo l k a y A' y' B' = 0 then A ++ addTo' k a y A' y' B' :: B else []) := by
  have hr := rightE_iff.2 h
  have hl := h.len
  obtain ⟨p1, p2, p3⟩ := pend_in hi hc ha
  have hj : ∃ l', escrow_Add_1_j1 n ((A.length : Int), k, a, A ++ pendOf k a y :: B, ()) = some (addErr (pendOf k a y) a.txn a.by_ a.bounds A' y' B', k, a, l') ∧ (addErr (pendOf k a y) a.txn a.by_ a.bounds A' y' B' = 0 → l' = A ++ addTo' k a y A' y' B' :: B) := by
    obtain ⟨l', g1, g2⟩ := adds_eq (n := n) (d := a.by_) (b := a.bounds) hn p1 hc' (by omega) ha.1 ha.2.2
    unfold escrow_Add_1_j1
    simp only [idx_app, Option.bind_some, sameI_self, g1]
    refine ⟨_, rfl, fun h0 => ?_⟩
    rw [g2 h0, Int.toNat_natCast]
    simp [addTo', addTo]
  have h1 : ∃ l', escrow_Add_1 n l k a = some (addNo l k a y A' y' B', k, a, l') ∧ (addNo l k a y A' y' B' = 0 → l' = A ++ addTo' k a y A' y' B' :: B) := by
    unfold escrow_Add_1 addNo
    rw [key_eq]
    simp only [Option.bind_some]
    cases hk : keyB k with
    | false => exact ⟨_, rfl, fun h => by simp at h⟩
    | true =>
      have e6 : decide ((l.length : Int) ≥ 60) = decide (60 ≤ l.length) := decide_eq_decide.2 (by omega)
      simp only [Bool.not_true, cond_false, psearch hn hc (show l.length ≤ 1000 by omega), Option.bind_some, jn, e6, Bool.false_eq_true, if_false]
      cases y with
      | some p =>
        have e : l = A ++ pendOf k a (some p) :: B := hc.eq
        simp only [Option.isSome_some, Bool.not_true, cond_false, Bool.false_and, Bool.false_eq_true, if_false]
        rw [show escrow_Add_1_j1 n ((A.length : Int), k, a, l, ()) = escrow_Add_1_j1 n ((A.length : Int), k, a, A ++ pendOf k a (some p) :: B, ()) from by rw [← e]]
        exact hj
      | none =>
        simp only [Option.isSome_none, Bool.not_false, cond_true, Bool.true_and]
        cases h8 : decide (60 ≤ l.length) with
        | true => exact ⟨_, rfl, fun h => by simp at h⟩
        | false =>
          have hi : slices_Insert_Pending n (A.length : Int) l [Pending.mk k a.now []] = some (A ++ pendOf k a none :: B) := insL_cut hc _ (by omega) (by decide)
          simp only [cond_false, hi, Option.bind_some, Bool.false_eq_true, if_false]
          exact hj
  obtain ⟨l', g1, g2⟩ := h1
  unfold escrow_Add
  rw [withA hn hi (by omega), hr]
  simp only [Bool.not_true, cond_false, g1, Option.bind_some, ibne]
  by_cases h0 : addNo l k a y A' y' B' = 0
  · rw [decide_eq_true h0, if_pos h0, h0, g2 h0]; rfl
  · rw [decide_eq_false h0, if_neg h0]; rfl
theorem add_bad (hn : 1003 ≤ n) (hi : EscIn l) (hl : l.length ≤ 61) (h : rightE l = false) (a : Adding) : escrow_Add n ⟨l⟩ k a = some (200, []) := by
  unfold escrow_Add
  rw [withA hn hi hl, h]; rfl
theorem addTo_shares {p : Pending} {A' B' : List Share} {o : Share} : (addTo p A' B' o).shares.length ≠ 0 := by simp [addTo]
theorem radd_eq (hn : 1003 ≤ n) (h : EscOk l) (hi : EscIn l) (hki : KeyIn k) (hc : Cut (cK k) l A y B) {a : Adding} (ha : AddIn a) {A' B' : List Share} {y' : Option Share} (hc' : Cut (cT a.txn) (pendOf k a y).shares A' y' B') :
    ref10_Add n ⟨l⟩ k a = some (⟨if addNo l k a y A' y' B' = 0 then A ++ addTo' k a y A' y' B' :: B else []⟩, addNo l k a y A' y' B') := by
  have hl := h.len
  obtain ⟨p1, p2, p3⟩ := pend_in hi hc ha
  unfold ref10_Add addNo
  rw [rkey_eq]
  simp only [Option.bind_some]
  cases hk : keyB k with
  | false => rfl
  | true =>
    have e6 : decide ((l.length : Int) ≥ 60) = decide (60 ≤ l.length) := decide_eq_decide.2 (by omega)
    have hj : ref10_Add_j1 n (⟨l⟩, a, Escrow.mk [], pendOf k a y, ()) = some (⟨if addErr (pendOf k a y) a.txn a.by_ a.bounds A' y' B' = 0 then A ++ addTo' k a y A' y' B' :: B else []⟩, addErr (pendOf k a y) a.txn a.by_ a.bounds A' y' B') := by
      obtain ⟨p', g1, g2⟩ := widened_eq (n := n) (d := a.by_) (b := a.bounds) hn p1 hc' (by omega) ha.1 ha.2.2
      unfold ref10_Add_j1
      simp only [g1, Option.bind_some, ibne]
      by_cases h0 : addErr (pendOf k a y) a.txn a.by_ a.bounds A' y' B' = 0
      · rw [decide_eq_true h0, if_pos h0, g2 h0]
        have := put_eqE (n := n) hn hc hl (escOk_key h hi) (p := addTo (pendOf k a y) A' B' (newS (ownS a.txn y') ((ownS a.txn y').sum + a.by_))) p3 ⟨hk, hki⟩
        rw [if_neg addTo_shares] at this
        simp only [Bool.not_true, cond_false, this, Option.bind_some, h0]
        rfl
      · rw [decide_eq_false h0, if_neg h0]; rfl
    simp only [Bool.not_true, cond_false, rfindE hn l (by omega), cut_find hc, Option.bind_some, jn, e6, Bool.false_eq_true, if_false]
    cases y with
    | some p =>
      simp only [Option.isSome_some, Bool.not_true, cond_false, Bool.false_and, Bool.false_eq_true, if_false]
      exact hj
    | none =>
      simp only [Option.isSome_none, Bool.not_false, cond_true, Bool.true_and]
      cases h8 : decide (60 ≤ l.length) with
      | true => rfl
      | false =>
        simp only [cond_false, Bool.false_eq_true, if_false]
        exact hj

/-! ### Back -/
def backErr (s : Share) (d : Int) : Int := if !fits (s.sum - d) || decide (s.sum - d < s.lo) || decide (s.sum - d > s.hi) then 2 else 0
def backTo (p : Pending) (A' B' : List Share) (s : Share) (d : Int) : Pending := ⟨p.key, p.value, A' ++ ⟨s.txn, s.sum - d, s.hi, s.lo⟩ :: B'⟩
/-- What comes of a Back, where there is such a share of such a pending key. -/
def backNo (y : Option Pending) (y' : Option Share) (d : Int) : Int := match y, y' with
  | some _, some s => backErr s d
  | _, _ => 4
def backP (A : List Pending) (y : Option Pending) (B : List Pending) (A' : List Share) (y' : Option Share) (B' : List Share) (d : Int) : List Pending := match y, y' with
  | some p, some s => if backErr s d = 0 then A ++ backTo p A' B' s d :: B else []
  | _, _ => []
theorem back_core (hn : 1003 ≤ n) {p : Pending} {s : Share} (hs : ShIn s) {d : Int} (hd : I64 d) {A' B' : List Share} {t : Int} (hc : Cut (cK k) l A (some p) B) (hc' : Cut (cT t) p.shares A' (some s) B') (hl : l.length ≤ 100) (hl' : p.shares.length ≤ 100) :
    ∃ l', escrow_Back_1 n l k t d = some (backErr s d, k, t, d, l') ∧ (backErr s d = 0 → l' = A ++ backTo p A' B' s d :: B) := by
  obtain ⟨s1, s2, s3⟩ := hs
  unfold escrow_Back_1
  have ix : idx l (A.length : Int) = some p := cut_idx hc
  have ix' : idx p.shares (A'.length : Int) = some s := cut_idx hc'
  have hw : I64 (IntKind.wrap .i64 (s.sum - d)) := by rw [IntKind.wrap_i64]; unfold I64; omega
  have hq : escrow_wide.eqb (wideOf (IntKind.wrap .i64 (s.sum - d) + d)) (wideOf s.sum) = fits (s.sum - d) := by
    unfold escrow_wide.eqb fits wideOf
    simp only
    rw [IntKind.wrap_i64]
    by_cases hf : -9223372036854775808 ≤ s.sum - d ∧ s.sum - d ≤ 9223372036854775807
    · rw [decide_eq_true hf]
      simp only [Bool.and_eq_true, beq_iff_eq, Bool.and_true]
      omega
    · rw [decide_eq_false hf]
      simp only [Bool.and_eq_false_iff, beq_eq_false_iff_ne, Bool.and_true]
      omega
  simp only [psearch hn hc (show l.length ≤ 1000 by omega), Option.bind_some, Option.isSome_some, Bool.not_true, cond_false, ix, sameI_self, ssearch hn hc' (show p.shares.length ≤ 1000 by omega), ix', sum2 hn hw hd, eof_eq n s2, hq, jn_or]
  unfold backErr
  cases hf : fits (s.sum - d) with
  | false => exact ⟨_, rfl, fun h => by simp at h⟩
  | true =>
    have hv : IntKind.wrap .i64 (s.sum - d) = s.sum - d := wrap_in (of_decide_eq_true hf)
    rw [hv]
    have e : p.shares = A' ++ s :: B' := hc'.eq
    have hput : put p.shares (A'.length : Int) (Share.mk s.txn (s.sum - d) s.hi s.lo) = some (A' ++ Share.mk s.txn (s.sum - d) s.hi s.lo :: B') := by rw [e, put_app]
    simp only [Bool.not_true, Bool.false_or, hput, Option.bind_some, Int.toNat_natCast, cond_false]
    cases h1 : decide (s.sum - d < s.lo) with
    | true => simp only [cond_true, jn, Bool.true_or, if_true]; exact ⟨_, rfl, fun h => by cases h⟩
    | false =>
      simp only [cond_false, jn, Bool.false_or]
      cases h2 : decide (s.sum - d > s.hi) with
      | true => exact ⟨_, rfl, fun h => by simp at h⟩
      | false => exact ⟨_, rfl, fun _ => cut_set hc rfl⟩
end
end Go.Proofs.Ytfidbgcdjmhjnaa
