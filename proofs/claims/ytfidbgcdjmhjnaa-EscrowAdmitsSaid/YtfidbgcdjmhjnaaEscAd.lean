/- The plain law EscrowAdmits: who may add, as the document says. -/
import Derived.Test.YtfidbgcdjmhjnaaEscH
namespace Go.Proofs.Ytfidbgcdjmhjnaa
open Go.Bur
set_option linter.unusedSimpArgs false
set_option linter.unusedVariables false
set_option maxRecDepth 100000

theorem plainEscrowAdmits (p : Pending) (l : List Adding) (h1 : okT tab 9 (.st 2) p) (h2 : okT tab 9 (.sl (.st 4)) l) : ∃ n, law10_EscrowAdmits n p l = some true := by
  obtain ⟨N, hN⟩ : ∃ N, N = 2000 := ⟨2000, rfl⟩
  refine ⟨N, ?_⟩
  have hn : 1003 ≤ N := by omega
  unfold law10_EscrowAdmits
  obtain ⟨hp, hk⟩ := pend_of (d := 6) h1
  have hp' := fewP_in hp
  have hl9 : (fewP p).shares.length ≤ 9 := by unfold fewP; simp; omega
  simp only [wakes10 hn, few_eq N hn, Option.bind_some, Bool.not_true, cond_false, jn, fewL, List.map_cons, List.map_nil, List.take_succ_cons, List.take_nil]
  have e0 : idx ([fewP p]) 0 = some (fewP p) := rfl
  simp only [e0, Option.bind_some]
  generalize fewP p = q at hp' hl9
  show law10_EscrowAdmits_l2 N (law10_EscrowAdmits_j1 N) N (l, (l.length : Int), ((0 : Nat) : Int), q, ()) = some true
  unfold law10_EscrowAdmits_l2
  refine loop_to (some true) (min l.length 20) (fun (i : Nat) (_ : Unit) => (l, (l.length : Int), (i : Int), q, ())) (fun _ _ => True) (fun r i s hi _ => ?_) (fun r s _ => ?_) N 0 () (Nat.zero_le _) (by omega) trivial
  · have hil : i < l.length := by omega
    have ha : AddIn l[i] := adding_of (d := 6) (h2.1 _ (List.getElem_mem hil))
    refine .inr ?_
    refine ⟨(), ?_, trivial⟩
    simp only [lt_dec hil, cond_true, idx_nat, get_some hil, Option.bind_some, jn, wrap_succ (show i < 4611686018427387904 by omega), rrightP_eq hn hp' (show q.shares.length ≤ 98 by omega), law10_EscrowAdmits_j3]
    rw [show ((i : Int) == 20) = decide (i = 20) from ieqN (m := 20), decide_eq_false (show ¬ i = 20 by omega)]
    simp only [cond_false]
    cases hr : rightP q with
    | false => simp only [admit_bad hn hp' hr (show q.shares.length ≤ 90 by omega), cond_false, Option.bind_some, show ((200 : Int) != 200) = false from rfl]
    | true =>
      obtain ⟨A, y, B, hc⟩ := cutT (l[i]).txn (rightP_chain hr)
      simp only [admit_eq hn hp' hr hc (show q.shares.length ≤ 90 by omega) ha.1 ha.2.2, radmit_eq hn hp' hc (show q.shares.length ≤ 90 by omega) ha.1 ha.2.2, cond_true, Option.bind_some, bne_self_eq_false, cond_false]
  · by_cases hlt : l.length ≤ 20
    · rw [Nat.min_eq_left hlt]
      simp only [ge_dec (Nat.lt_irrefl _), cond_false]
      rfl
    · rw [Nat.min_eq_right (by omega)]
      simp only [lt_dec (show 20 < l.length by omega), cond_true, idx_nat, get_some (show 20 < l.length by omega), Option.bind_some, show (((20 : Nat) : Int) == 20) = true from rfl]
      rfl
end Go.Proofs.Ytfidbgcdjmhjnaa
