/- The plain law EscrowTells: which escrows may be, are one, and what they tell. -/
import Derived.Test.YtfidbgcdjmhjnaaEscH
namespace Go.Proofs.Ytfidbgcdjmhjnaa
open Go.Bur
set_option linter.unusedSimpArgs false
set_option linter.unusedVariables false
set_option maxRecDepth 100000

theorem plainEscrowTells (l : List Escrow) (ks : List Key) (h1 : okT tab 9 (.sl (.st 5)) l) (h2 : okT tab 9 (.sl (.st 0)) ks) : ∃ n, law10_EscrowTells n l ks = some true := by
  obtain ⟨N, hN⟩ : ∃ N, N = 2000 := ⟨2000, rfl⟩
  refine ⟨N, ?_⟩
  have hn : 1003 ≤ N := by omega
  unfold law10_EscrowTells
  simp only [wakes10 hn, Option.bind_some, Bool.not_true, cond_false, jn]
  show law10_EscrowTells_l2 N (law10_EscrowTells_j1 N) N (l, ks, l, (l.length : Int), ((0 : Nat) : Int), ()) = some true
  unfold law10_EscrowTells_l2
  refine loop_to (some true) (min l.length 6) (fun (i : Nat) (_ : Unit) => (l, ks, l, (l.length : Int), (i : Int), ())) (fun _ _ => True) (fun r i s hi _ => ?_) (fun r s _ => ?_) N 0 () (Nat.zero_le _) (by omega) trivial
  · have hil : i < l.length := by omega
    have h0 : 0 < l.length := by omega
    have ix0 : idx l 0 = some l[0] := (idx_zero l).trans (get_some h0)
    have hx : EscIn (fewL (l[i]).rows) := few_in (d := 5) (h1.1 _ (List.getElem_mem hil))
    have hlen := few_len (l[i]).rows
    have hxs : ∀ p ∈ fewL (l[i]).rows, p.shares.length ≤ 1000 := fun p hp => escIn_len hx hp
    refine .inr ?_
    refine ⟨(), ?_, trivial⟩
    simp only [lt_dec hil, cond_true, idx_nat, get_some hil, Option.bind_some, jn, ix0]
    rw [show ((i : Int) == 6) = decide (i = 6) from ieqN (m := 6), decide_eq_false (show ¬ i = 6 by omega)]
    have efew : ∀ x : Escrow, law10_few N x = some ⟨fewL x.rows⟩ := fun x => few_eq N hn x.rows
    simp only [cond_false, efew, Option.bind_some, rright_eq hn hx hlen, echeck_eq hn hx hlen, esame_eq hn _ _ (show (fewL (l[i]).rows).length ≤ 1000 by omega) hxs, rsameE_eq hn _ _ (show (fewL (l[i]).rows).length ≤ 1000 by omega) hxs, escSame_refl, beq_self_eq_true, Bool.not_true, cond_false]
    -- what is told of each pending key
    have hl4 : ∀ e : Escrow, e = ⟨fewL (l[i]).rows⟩ → law10_EscrowTells_j3 N r (l, ks, l, (l.length : Int), (i : Int), e, ()) = r (l, ks, l, (l.length : Int), ((i + 1 : Nat) : Int), ()) := fun e he => by
      subst he
      unfold law10_EscrowTells_j3
      show law10_EscrowTells_l4 N r N (l, ks, l, (l.length : Int), (i : Int), fewL (l[i]).rows, ((fewL (l[i]).rows).length : Int), ((0 : Nat) : Int), ()) = _
      generalize fewL (l[i]).rows = m at hx hlen
      unfold law10_EscrowTells_l4
      refine loop_to _ m.length (fun (j : Nat) (_ : Unit) => (l, ks, l, (l.length : Int), (i : Int), m, (m.length : Int), (j : Int), ())) (fun _ _ => True) (fun r4 j s hj _ => ?_) (fun r4 s _ => ?_) N 0 () (Nat.zero_le _) (by omega) trivial
      · refine .inr ?_
        refine ⟨(), ?_, trivial⟩
        obtain ⟨a1, a2, a3⟩ := hx m[j] (List.getElem_mem hj)
        simp only [lt_dec hj, cond_true, idx_nat, get_some hj, Option.bind_some, jn, law10_EscrowTells_j5, wrap_succ (show j < 4611686018427387904 by omega), Ends_eq hn a1 a3, rrightP_eq hn a1 (show (m[j]).shares.length ≤ 98 by omega)]
        cases hr : rightP m[j] with
        | false => simp
        | true =>
          simp only [if_true, Bool.not_true, cond_false, rEnds_eq hn a1 a3 hr, Option.bind_some]
          simp
      · simp only [ge_dec (Nat.lt_irrefl _), cond_false, wrap_succ (show i < 4611686018427387904 by omega)]
    -- what is found
    have hl6 : law10_EscrowTells_l6 N (law10_EscrowTells_j3 N r) N (l, ks, l, (l.length : Int), (i : Int), ks, (ks.length : Int), 0, ⟨fewL (l[i]).rows⟩, ()) = r (l, ks, l, (l.length : Int), ((i + 1 : Nat) : Int), ()) := by
      show law10_EscrowTells_l6 N (law10_EscrowTells_j3 N r) N (l, ks, l, (l.length : Int), (i : Int), ks, (ks.length : Int), ((0 : Nat) : Int), ⟨fewL (l[i]).rows⟩, ()) = _
      unfold law10_EscrowTells_l6
      refine loop_to _ (min ks.length 10) (fun (j : Nat) (_ : Unit) => (l, ks, l, (l.length : Int), (i : Int), ks, (ks.length : Int), (j : Int), Escrow.mk (fewL (l[i]).rows), ())) (fun _ _ => True) (fun r6 j s hj _ => ?_) (fun r6 s _ => ?_) N 0 () (Nat.zero_le _) (by omega) trivial
      · refine .inr ?_
        refine ⟨(), ?_, trivial⟩
        have hjl : j < ks.length := by omega
        simp only [lt_dec hjl, cond_true, idx_nat, get_some hjl, Option.bind_some, jn, wrap_succ (show j < 4611686018427387904 by omega), findE hn _ (show (fewL (l[i]).rows).length ≤ 1000 by omega), rfindE hn _ (show (fewL (l[i]).rows).length ≤ 1000 by omega)]
        rw [show ((j : Int) == 10) = decide (j = 10) from ieqN (m := 10), decide_eq_false (show ¬ j = 10 by omega)]
        simp only [beq_self_eq_true, Bool.not_true, cond_false]
        cases hf : (fewL (l[i]).rows).find? (fun p => Key.eqb p.key ks[j]) with
        | none => simp only [rsamePending_eq hn (Pending.mk (Key.mk 0 0) 0 []) _ (by simp), pendSame_refl, Option.bind_some, Bool.not_true, cond_false]
        | some p => simp only [rsamePending_eq hn p _ (hxs p (List.mem_of_find?_eq_some hf)), pendSame_refl, Option.bind_some, Bool.not_true, cond_false]
      · by_cases hlt : ks.length ≤ 10
        · rw [Nat.min_eq_left hlt]
          simp only [ge_dec (Nat.lt_irrefl _), cond_false]
          exact hl4 _ rfl
        · rw [Nat.min_eq_right (by omega)]
          simp only [lt_dec (show 10 < ks.length by omega), cond_true, idx_nat, get_some (show 10 < ks.length by omega), Option.bind_some, show (((10 : Nat) : Int) == 10) = true from rfl]
          exact hl4 _ rfl
    rw [hl6]
    cases rightE (fewL (l[i]).rows) <;> rfl
  · by_cases hlt : l.length ≤ 6
    · rw [Nat.min_eq_left hlt]
      simp only [ge_dec (Nat.lt_irrefl _), cond_false]
      rfl
    · rw [Nat.min_eq_right (by omega)]
      simp only [lt_dec (show 6 < l.length by omega), cond_true, idx_nat, get_some (show 6 < l.length by omega), Option.bind_some, show (((6 : Nat) : Int) == 6) = true from rfl]
      rfl
end Go.Proofs.Ytfidbgcdjmhjnaa
