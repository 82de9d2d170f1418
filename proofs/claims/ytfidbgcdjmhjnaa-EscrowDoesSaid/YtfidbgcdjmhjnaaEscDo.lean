/- The plain law EscrowDoes: what comes of an escrow by what is done. -/
import Derived.Test.YtfidbgcdjmhjnaaEscI
namespace Go.Proofs.Ytfidbgcdjmhjnaa
open Go.Bur
set_option linter.unusedSimpArgs false
set_option linter.unusedVariables false
set_option maxRecDepth 100000

section
variable {n : Nat} {l : List Pending}
theorem copy_eq (hn : 1003 ≤ n) (hl : l.length ≤ 1000) (h : ∀ p ∈ l, p.shares.length ≤ 1000) : ref10_Copy n ⟨l⟩ = some ⟨l⟩ := by
  show ref10_Copy_l1 n n (l, (l.length : Int), ((0 : Nat) : Int), Escrow.mk [], [], ()) = _
  unfold ref10_Copy_l1
  refine (run_loopI l (fun (i : Nat) (s : List Pending) => (l, (l.length : Int), (i : Int), Escrow.mk [], s, ())) (fun _ x s => .inr (s ++ [x])) (fun s => some ⟨s⟩) (fun i s => s.length ≤ i) (fun i s x s' hx hi hs => ?_) (fun r i s x hx hi hs => ?_) (fun r s hs => ?_) n 0 [] (Nat.zero_le _) (by omega) (by simp)).trans ?_
  · injection hs with hs; subst hs; simp; omega
  · have a1 : app 48 s [x] = some (s ++ [x]) := app_lt (by simp; omega) (by decide)
    have e : Pending.mk (Key.mk x.key.table x.key.id) x.value x.shares = x := rfl
    simp only [lt_dec hi, cond_true, idx_nat, hx, Option.bind_some, copied_eq n x (h x (List.mem_of_getElem? hx)), e, a1, wrap_succ (show i < 4611686018427387904 by omega)]
  · simp only [ge_dec (Nat.lt_irrefl _), cond_false]
  · rw [List.drop_zero, runL_fold]
    congr 2
    have : ∀ (l s : List Pending), l.foldl (fun s x => s ++ [x]) s = s ++ l := by
      intro l
      induction l with
      | nil => intro s; simp
      | cons x t ih => intro s; rw [List.foldl_cons, ih]; simp
    rw [this]; rfl
def OpIn (o : law10_Op) : Prop := KeyIn o.key ∧ AddIn o.adding
theorem op_of {d : Nat} {o : law10_Op} (h : okT tab (d + 3) (.st 8) o) : OpIn o := ⟨h.2.2.2.2.1, h.2.2.2.2.2.2.1, h.2.2.2.2.2.2.2.1, h.2.2.2.2.2.2.2.2.1, h.2.2.2.2.2.2.2.2.2.1⟩
theorem opKey (hi : EscIn l) (hl : l.length ≤ 61) {o : law10_Op} (ho : OpIn o) : ∃ k, law10_Op_key n o ⟨l⟩ = some k ∧ KeyIn k := by
  unfold law10_Op_key
  simp only [jn]
  by_cases h0 : 0 < l.length
  · rw [decide_eq_true (show (l.length : Int) > 0 by omega), cond_true]
    cases o.other with
    | true => exact ⟨_, rfl, ho.1⟩
    | false =>
      have hw : IntKind.wrap .u64 (l.length : Int) = (l.length : Int) := by rw [IntKind.wrap_u64]; omega
      have hz : 0 ≤ IntKind.wrap .u64 o.at_ := by rw [IntKind.wrap_u64]; omega
      have hr : remP (IntKind.wrap .u64 o.at_) (l.length : Int) = some ((IntKind.wrap .u64 o.at_) % (l.length : Int)) := by
        unfold remP
        rw [if_pos (by omega), Int.tmod_eq_emod_of_nonneg hz]
      have h1 := Int.emod_nonneg (IntKind.wrap .u64 o.at_) (show (l.length : Int) ≠ 0 by omega)
      have h2 := Int.emod_lt_of_pos (IntKind.wrap .u64 o.at_) (show (0 : Int) < (l.length : Int) by omega)
      obtain ⟨x, hx⟩ := idx_in (l := l) ⟨h1, h2⟩
      rw [hw, hr]
      simp only [Bool.not_false, cond_true, Option.bind_some, hx]
      exact ⟨_, rfl, (hi x (idx_some hx).2.2).2.1⟩
  · rw [decide_eq_false (show ¬ (l.length : Int) > 0 by omega), cond_false]
    exact ⟨_, rfl, ho.1⟩
/-- What an op comes to: the same on both sides, and what is left may be again. -/
def Agree (n : Nat) (l : List Pending) (r : Option (Int × List Pending)) (w : Option (Escrow × Int)) : Prop := ∃ no m, r = some (no, m) ∧ w = some (⟨m⟩, no) ∧ EscIn m ∧ m.length ≤ 61
theorem agreeAdd (hn : 1003 ≤ n) (hr : rightE l = true) (hi : EscIn l) {k : Key} (hk : KeyIn k) {a : Adding} (ha : AddIn a) : Agree n l (escrow_Add n ⟨l⟩ k a) (ref10_Add n ⟨l⟩ k a) := by
  have h := rightE_iff.1 hr
  obtain ⟨A, y, B, hc⟩ := cutK k h.ord
  obtain ⟨A', y', B', hc'⟩ := pend_cut h hc a
  refine ⟨_, _, add_eq hn h hi hc ha hc', radd_eq hn h hi hk hc ha hc', ?_, ?_⟩
  · split
    · rename_i h0; exact (add_ok h hi hk hc ha hc' h0).2
    · exact escIn_nil
  · split
    · rename_i h0; have := (add_ok h hi hk hc ha hc' h0).1.len; omega
    · simp
theorem agreeBack (hn : 1003 ≤ n) (hr : rightE l = true) (hi : EscIn l) (k : Key) (t : Int) {d : Int} (hd : I64 d) : Agree n l (escrow_Back n ⟨l⟩ k t d) (ref10_Back n ⟨l⟩ k t d) := by
  have h := rightE_iff.1 hr
  obtain ⟨A, y, B, hc⟩ := cutK k h.ord
  have : ∃ A' y' B', ∀ p, y = some p → Cut (cT t) p.shares A' y' B' := by
    cases y with
    | none => exact ⟨[], none, [], fun p hp => by cases hp⟩
    | some p =>
      obtain ⟨A', y', B', hc'⟩ := cutT t (rightP_chain (h.each p (by rw [hc.eq]; simp)))
      exact ⟨A', y', B', fun q hq => by cases hq; exact hc'⟩
  obtain ⟨A', y', B', hc'⟩ := this
  refine ⟨_, _, back_eq hn h hi hc hd hc', rback_eq hn h hi hc hd hc', ?_⟩
  by_cases h0 : backNo y y' d = 0
  · obtain ⟨g1, g2⟩ := back_ok h hi hc hc' h0
    exact ⟨g2, by have := g1.len; omega⟩
  · have e : backP A y B A' y' B' d = [] := by
      unfold backP
      unfold backNo at h0
      cases y with
      | none => rfl
      | some p =>
        cases y' with
        | none => rfl
        | some s => simp only at h0 ⊢; rw [if_neg h0]
    rw [e]; exact ⟨escIn_nil, by simp⟩
theorem agreeOver (hn : 1003 ≤ n) (hr : rightE l = true) (hi : EscIn l) (t : Int) (c : Bool) : Agree n l (escrow_Over n ⟨l⟩ t c) (ref10_Over n ⟨l⟩ t c) := by
  have h := rightE_iff.1 hr
  rw [over_eqE hn h hi, rover_eq hn h hi]
  obtain ⟨g1, g2⟩ := over_ok h hi t c
  cases txnB t with
  | false => exact ⟨_, _, rfl, rfl, escIn_nil, by simp⟩
  | true => exact ⟨_, _, rfl, rfl, g2, by have := g1.len; omega⟩
theorem agree_ab {r : Option (Int × List Pending)} {w : Option (Escrow × Int)} (h : Agree n l r w) : Agree n l (r.bind fun y => some (y.1, y.2)) (w.bind fun y => some (y.1, y.2)) := by
  obtain ⟨no, m, rfl, rfl, h3, h4⟩ := h
  exact ⟨no, m, rfl, rfl, h3, h4⟩
theorem agreeOp (hn : 1003 ≤ n) (hi : EscIn l) (hl : l.length ≤ 61) {o : law10_Op} (ho : OpIn o) : Agree n l (law10_Op_run n o ⟨l⟩) (law10_Op_wants n o ⟨l⟩) := by
  obtain ⟨k, hk1, hk2⟩ := opKey (n := n) hi hl ho
  have hz : 0 ≤ IntKind.wrap .u64 o.kind := by rw [IntKind.wrap_u64]; omega
  have hrem : ∃ z, remP (IntKind.wrap .u64 o.kind) 7 = some z ∧ 0 ≤ z ∧ z < 7 := by
    refine ⟨(IntKind.wrap .u64 o.kind) % 7, ?_, by omega, by omega⟩
    unfold remP
    rw [if_pos (by decide), Int.tmod_eq_emod_of_nonneg hz]
  obtain ⟨z, hz1, hz2, hz3⟩ := hrem
  unfold law10_Op_run law10_Op_wants
  rw [hz1, rright_eq hn hi hl]
  simp only [Option.bind_some]
  cases hr : rightE l with
  | true =>
    have gA := agree_ab (agreeAdd hn hr hi hk2 ho.2)
    have gB := agree_ab (agreeBack hn hr hi k o.adding.txn ho.2.1)
    have gT := agree_ab (agreeOver hn hr hi o.adding.txn true)
    have gF := agree_ab (agreeOver hn hr hi o.adding.txn false)
    have hc : z = 0 ∨ z = 1 ∨ z = 2 ∨ z = 3 ∨ z = 4 ∨ z = 5 ∨ z = 6 := by omega
    rcases hc with rfl | rfl | rfl | rfl | rfl | rfl | rfl <;>
      simp only [jn, law10_Op_run_j1, law10_Op_run_j2, law10_Op_run_j3, law10_Op_wants_j1, law10_Op_wants_j2, law10_Op_wants_j3, hk1, Option.bind_some, Bool.not_true, cond_true, cond_false, Int.reduceBEq] <;> first | exact gA | exact gB | exact gT | exact gF
  | false =>
    have eB : ∀ {r : Option (Int × List Pending)}, r = some (200, []) → Agree n l (r.bind fun y => some (y.1, y.2)) (some (Escrow.mk [], 200)) := fun h => ⟨200, [], by rw [h]; rfl, rfl, escIn_nil, by simp⟩
    have gA := eB (add_bad (n := n) (k := k) hn hi hl hr o.adding)
    have gB := eB (back_bad (n := n) (k := k) hn hi hl hr o.adding.txn o.adding.by_)
    have gT := eB (over_bad (n := n) hn hi hl hr o.adding.txn true)
    have gF := eB (over_bad (n := n) hn hi hl hr o.adding.txn false)
    have hc : z = 0 ∨ z = 1 ∨ z = 2 ∨ z = 3 ∨ z = 4 ∨ z = 5 ∨ z = 6 := by omega
    rcases hc with rfl | rfl | rfl | rfl | rfl | rfl | rfl <;>
      simp only [jn, law10_Op_run_j1, law10_Op_run_j2, law10_Op_run_j3, hk1, Option.bind_some, Bool.not_false, cond_true, cond_false, Int.reduceBEq] <;> first | exact gA | exact gB | exact gT | exact gF
end
theorem plainEscrowDoes (x : Escrow) (l : List law10_Op) (h1 : okT tab 9 (.st 5) x) (h2 : okT tab 9 (.sl (.st 8)) l) : ∃ n, law10_EscrowDoes n x l = some true := by
  obtain ⟨N, hN⟩ : ∃ N, N = 2000 := ⟨2000, rfl⟩
  refine ⟨N, ?_⟩
  have hn : 1003 ≤ N := by omega
  have hi0 : EscIn (fewL x.rows) := few_in (d := 5) h1
  have hlen0 := few_len x.rows
  unfold law10_EscrowDoes
  simp only [wakes10 hn, show law10_few N x = some ⟨fewL x.rows⟩ from few_eq N hn x.rows, Option.bind_some, Bool.not_true, cond_false, jn]
  generalize fewL x.rows = e0 at hi0 hlen0
  show law10_EscrowDoes_l2 N (law10_EscrowDoes_j1 N) N (l, (l.length : Int), ((0 : Nat) : Int), ⟨e0⟩, ()) = some true
  unfold law10_EscrowDoes_l2
  refine loop_to (some true) (min l.length 40) (fun (i : Nat) (s : List Pending) => (l, (l.length : Int), (i : Int), Escrow.mk s, ())) (fun _ s => EscIn s ∧ s.length ≤ 61) (fun r i s hi hI => ?_) (fun r s hI => ?_) N 0 e0 (Nat.zero_le _) (by omega) ⟨hi0, hlen0⟩
  · obtain ⟨hs, hsl⟩ := hI
    have hil : i < l.length := by omega
    have ho : OpIn l[i] := op_of (d := 6) (h2.1 _ (List.getElem_mem hil))
    obtain ⟨no, m, g1, g2, g3, g4⟩ := agreeOp (n := N) hn hs hsl ho
    have hss : ∀ p ∈ s, p.shares.length ≤ 1000 := fun p hp => escIn_len hs hp
    have hms : ∀ p ∈ m, p.shares.length ≤ 1000 := fun p hp => escIn_len g3 hp
    refine .inr ?_
    have hend : ∃ s', law10_EscrowDoes_j5 N r (l, (l.length : Int), (i : Int), ⟨s'⟩, ()) = (cond (no == 0) (law10_EscrowDoes_j5 N r (l, (l.length : Int), (i : Int), ⟨m⟩, ())) (law10_EscrowDoes_j5 N r (l, (l.length : Int), (i : Int), ⟨s⟩, ()))) ∧ EscIn s' ∧ s'.length ≤ 61 := by
      cases no == 0 with
      | true => exact ⟨m, rfl, g3, g4⟩
      | false => exact ⟨s, rfl, hs, hsl⟩
    obtain ⟨s', hs1, hs2, hs3⟩ := hend
    refine ⟨s', ?_, hs2, hs3⟩
    simp only [lt_dec hil, cond_true, idx_nat, get_some hil, Option.bind_some, jn]
    rw [show ((i : Int) == 40) = decide (i = 40) from ieqN (m := 40), decide_eq_false (show ¬ i = 40 by omega)]
    simp only [cond_false, copy_eq hn (show s.length ≤ 1000 by omega) hss, copy_eq hn (show m.length ≤ 1000 by omega) hms, g1, g2, Option.bind_some, bne_self_eq_false, rsameE_eq hn _ _ (show s.length ≤ 1000 by omega) hss, rsameE_eq hn _ _ (show m.length ≤ 1000 by omega) hms, escSame_refl, Bool.not_true]
    -- the answer is changed, in every place
    show law10_EscrowDoes_l3 N r N (no, l, (l.length : Int), (i : Int), (m.length : Int), ((0 : Nat) : Int), ⟨s⟩, ⟨s⟩, ⟨m⟩, m, ()) = _
    have fin : ∀ cur : List Pending, cur.length = m.length → (∀ p ∈ cur, p.shares.length ≤ 9) → law10_EscrowDoes_l3 N r N (no, l, (l.length : Int), (i : Int), (m.length : Int), ((0 : Nat) : Int), ⟨s⟩, ⟨s⟩, ⟨m⟩, cur, ()) = r (l, (l.length : Int), ((i + 1 : Nat) : Int), ⟨s'⟩, ()) := by
      intro cur hcl hcs
      unfold law10_EscrowDoes_l3
      refine loop_to _ m.length (fun (k : Nat) (c : List Pending) => (no, l, (l.length : Int), (i : Int), (m.length : Int), (k : Int), Escrow.mk s, Escrow.mk s, Escrow.mk m, c, ())) (fun _ c => c.length = m.length ∧ ∀ p ∈ c, p.shares.length ≤ 9) (fun r3 k c hk hI => ?_) (fun r3 c hI => ?_) N 0 cur (Nat.zero_le _) (by omega) ⟨hcl, hcs⟩
      · obtain ⟨c1, c2⟩ := hI
        refine .inr ?_
        have hkc : k < c.length := by omega
        have hsl9 := c2 c[k] (List.getElem_mem hkc)
        have inner : ∀ c' : List Pending, c'.length = m.length → (∀ p ∈ c', p.shares.length ≤ 9) → (∃ y, c'[k]? = some y ∧ y.shares.length = (c[k]).shares.length) → ∃ c'', law10_EscrowDoes_l4 N r3 N (no, (k : Int), l, (l.length : Int), (i : Int), (m.length : Int), (k : Int), ((c[k]).shares.length : Int), 0, ⟨s⟩, ⟨s⟩, ⟨m⟩, c', ()) = r3 (no, l, (l.length : Int), (i : Int), (m.length : Int), ((k + 1 : Nat) : Int), ⟨s⟩, ⟨s⟩, ⟨m⟩, c'', ()) ∧ c''.length = m.length ∧ ∀ p ∈ c'', p.shares.length ≤ 9 := by
          intro c' e1 e2 e3
          show ∃ c'', law10_EscrowDoes_l4 N r3 N (no, (k : Int), l, (l.length : Int), (i : Int), (m.length : Int), (k : Int), ((c[k]).shares.length : Int), ((0 : Nat) : Int), ⟨s⟩, ⟨s⟩, ⟨m⟩, c', ()) = _ ∧ _
          unfold law10_EscrowDoes_l4
          refine loop_ex (fun v => ∃ c'', v = r3 (no, l, (l.length : Int), (i : Int), (m.length : Int), ((k + 1 : Nat) : Int), ⟨s⟩, ⟨s⟩, ⟨m⟩, c'', ()) ∧ c''.length = m.length ∧ ∀ p ∈ c'', p.shares.length ≤ 9) (c[k]).shares.length (fun (j : Nat) (c' : List Pending) => (no, (k : Int), l, (l.length : Int), (i : Int), (m.length : Int), (k : Int), ((c[k]).shares.length : Int), (j : Int), Escrow.mk s, Escrow.mk s, Escrow.mk m, c', ())) (fun _ c' => c'.length = m.length ∧ (∀ p ∈ c', p.shares.length ≤ 9) ∧ ∃ y, c'[k]? = some y ∧ y.shares.length = (c[k]).shares.length) (fun r4 j c' hj hI => ?_) (fun r4 c' hI => ?_) N 0 c' (Nat.zero_le _) (by omega) ⟨e1, e2, e3⟩
          · obtain ⟨e1, e2, y, hy, hyl⟩ := hI
            have hjy : j < y.shares.length := by omega
            have hkc' : k < c'.length := by omega
            refine ⟨c'.set k (Pending.mk y.key y.value (y.shares.set j (Share.mk 99 (y.shares[j]).sum (y.shares[j]).hi (y.shares[j]).lo))), ?_, by rw [List.length_set]; exact e1, fun p hp => ?_, _, List.getElem?_set_self hkc', by simp [hyl]⟩
            · simp only [lt_dec hj, cond_true, idx_nat, hy, Option.bind_some, sameI_self, get_some hjy, put_ok hjy, Int.toNat_natCast, wrap_succ (show j < 4611686018427387904 by omega)]
            · rcases List.mem_or_eq_of_mem_set hp with hp | rfl
              · exact e2 p hp
              · have := e2 y (List.mem_of_getElem? hy)
                simpa using this
          · simp only [ge_dec (Nat.lt_irrefl _), cond_false, wrap_succ (show k < 4611686018427387904 by omega)]
            exact ⟨c', rfl, hI.1, hI.2.1⟩
        obtain ⟨c'', d1, d2, d3⟩ := inner (c.set k (Pending.mk (c[k]).key (IntKind.wrap .i64 ((c[k]).value + 1)) (c[k]).shares)) (by rw [List.length_set]; exact c1) (fun p hp => by
          rcases List.mem_or_eq_of_mem_set hp with hp | rfl
          · exact c2 p hp
          · exact hsl9) ⟨_, List.getElem?_set_self hkc, rfl⟩
        refine ⟨c'', ?_, d2, d3⟩
        simp only [lt_dec hk, cond_true, idx_nat, get_some hkc, Option.bind_some, sameI_self, Int.toNat_natCast]
        exact d1
      · simp only [ge_dec (Nat.lt_irrefl _), cond_false, rsameE_eq hn _ _ (show s.length ≤ 1000 by omega) hss, escSame_refl, Option.bind_some, Bool.not_true, jn]
        rw [← hs1]
        simp only [law10_EscrowDoes_j5, wrap_succ (show i < 4611686018427387904 by omega)]
    exact fin m rfl fun p hp => (g3 p hp).2.2
  · by_cases hlt : l.length ≤ 40
    · rw [Nat.min_eq_left hlt]
      simp only [ge_dec (Nat.lt_irrefl _), cond_false]
      rfl
    · rw [Nat.min_eq_right (by omega)]
      simp only [lt_dec (show 40 < l.length by omega), cond_true, idx_nat, get_some (show 40 < l.length by omega), Option.bind_some, show (((40 : Nat) : Int) == 40) = true from rfl]
      rfl
end Go.Proofs.Ytfidbgcdjmhjnaa
