/- The plain law EscrowTurns: in whatever order several are over, it comes to the same. -/
import Derived.Test.YtfidbgcdjmhjnaaEscI
namespace Go.Proofs.Ytfidbgcdjmhjnaa
open Go.Bur
set_option linter.unusedSimpArgs false
set_option linter.unusedVariables false
set_option maxRecDepth 100000

theorem cT_zero {t : Int} {s : Share} : cT t s = 0 ↔ s.txn = t := cmpI_zero
theorem ofT_over {t u : Int} (h : t ≠ u) (c : Bool) (p : Pending) : ofT t (overP u c p) = ofT t p := by
  unfold ofT overP
  simp only [List.find?_filter]
  congr 1
  funext s
  by_cases h1 : cT t s = 0
  · have h2 : ¬ cT u s = 0 := fun e => h ((cT_zero.1 h1).symm.trans (cT_zero.1 e))
    simp [h1, h2]
  · simp [h1]
theorem overP_comm {t u : Int} (h : t ≠ u) (c d : Bool) (p : Pending) : overP t c (overP u d p) = overP u d (overP t c p) := by
  have h1 := ofT_over h d p
  have h2 := ofT_over (Ne.symm h) c p
  unfold overP at h1 h2 ⊢
  simp only [h1, h2]
  congr 1
  · omega
  · simp only [List.filter_filter]
    congr 1
    funext s
    exact Bool.and_comm _ _
theorem overL_over (t u : Int) (c d : Bool) (l : List Pending) : overL t c (overL u d l) = (l.map fun p => overP t c (overP u d p)).filter fun p => !noShares p := by
  unfold overL
  induction l with
  | nil => rfl
  | cons p l ih =>
    simp only [List.map_cons, List.filter_cons]
    by_cases h1 : noShares (overP u d p) = true
    · have h2 : noShares (overP t c (overP u d p)) = true := by
        unfold noShares at h1 ⊢
        rw [decide_eq_true_iff] at h1 ⊢
        have := (List.filter_sublist (p := fun s => !decide (cT t s = 0)) (l := (overP u d p).shares)).length_le
        show (overP t c (overP u d p)).shares.length = 0
        unfold overP at h1 this ⊢
        simp only at h1 this ⊢
        omega
      simp only [h1, h2, Bool.not_true, Bool.false_eq_true, if_false]
      exact ih
    · have h1 : noShares (overP u d p) = false := by simpa using h1
      simp only [h1, Bool.not_false, if_true, List.map_cons, List.filter_cons]
      split
      · rw [ih]
      · exact ih
theorem overL_comm {t u : Int} (h : t ≠ u) (c d : Bool) (l : List Pending) : overL t c (overL u d l) = overL u d (overL t c l) := by
  rw [overL_over, overL_over]
  congr 2
  funext p
  exact overP_comm h c d p
theorem overP_twice (t : Int) (c d : Bool) (p : Pending) : overP t c (overP t d p) = overP t d p := by
  have h1 : ofT t (overP t d p) = none := by
    unfold ofT overP
    rw [List.find?_eq_none]
    intro s hs
    have := (List.mem_filter.1 hs).2
    simpa using this
  unfold overP at h1 ⊢
  have h0 : sumO none = 0 := rfl
  simp only [h1, h0, List.filter_filter, Bool.and_self]
  cases c <;> simp
theorem overL_twice (t : Int) (c : Bool) (l : List Pending) : overL t c (overL t c l) = overL t c l := by
  rw [overL_over]
  unfold overL
  congr 2
  funext p
  exact overP_twice t c c p
theorem plainEscrowTurns (x : Escrow) (ts : Arr2_int) (cs : Arr2_bool) (h1 : okT tab 9 (.st 5) x) (h2 : okT tab 9 (.st 13) ts) (h3 : okT tab 9 (.st 14) cs) : ∃ n, law10_EscrowTurns n x ts cs = some true := by
  obtain ⟨N, hN⟩ : ∃ N, N = 2000 := ⟨2000, rfl⟩
  refine ⟨N, ?_⟩
  have hn : 1003 ≤ N := by omega
  have hi : EscIn (fewL x.rows) := few_in (d := 5) h1
  have hlen := few_len x.rows
  unfold law10_EscrowTurns
  simp only [wakes10 hn, show law10_few N x = some ⟨fewL x.rows⟩ from few_eq N hn x.rows, Option.bind_some, Bool.not_true, cond_false, jn]
  generalize fewL x.rows = l at hi hlen
  by_cases hr : rightE l = true
  · have h := rightE_iff.1 hr
    rw [over_eqE hn h hi ts.a0 cs.a0, over_eqE hn h hi ts.a1 cs.a1]
    cases ht0 : txnB ts.a0 with
    | false => rfl
    | true =>
      cases ht1 : txnB ts.a1 with
      | false => simp
      | true =>
        simp only [if_true, Option.bind_some, show ((0 : Int) != 0) = false from rfl, cond_false]
        by_cases he : ts.a0 = ts.a1
        · rw [show (ts.a0 == ts.a1) = true from by rw [he]; simp]; rfl
        · rw [show (ts.a0 == ts.a1) = false from by simpa using he]
          obtain ⟨a1, a2⟩ := over_ok h hi ts.a0 cs.a0
          obtain ⟨b1, b2⟩ := over_ok h hi ts.a1 cs.a1
          obtain ⟨p1, p2⟩ := over_ok a1 a2 ts.a1 cs.a1
          have hpl := p1.len
          have hps : ∀ p ∈ overL ts.a1 cs.a1 (overL ts.a0 cs.a0 l), p.shares.length ≤ 1000 := fun p hp => escIn_len p2 hp
          simp only [cond_false, over_eqE hn a1 a2, over_eqE hn b1 b2, ht0, ht1, if_true, Option.bind_some]
          rw [over_eqE hn p1 p2, ht0]
          have e1 : overL ts.a0 cs.a0 (overL ts.a1 cs.a1 l) = overL ts.a1 cs.a1 (overL ts.a0 cs.a0 l) := overL_comm he _ _ _
          have e2 : overL ts.a0 cs.a0 (overL ts.a1 cs.a1 (overL ts.a0 cs.a0 l)) = overL ts.a1 cs.a1 (overL ts.a0 cs.a0 l) := by
            rw [← e1, overL_twice]
          simp only [if_true, Option.bind_some, e1, e2, esame_eq hn _ _ (show (overL ts.a1 cs.a1 (overL ts.a0 cs.a0 l)).length ≤ 1000 by omega) hps, escSame_refl, echeck_eq hn p2 (by omega), rightE_iff.2 p1]
          rfl
  · have hr : rightE l = false := by simpa using hr
    rw [over_bad hn hi hlen hr, over_bad hn hi hlen hr]
    rfl
end Go.Proofs.Ytfidbgcdjmhjnaa
