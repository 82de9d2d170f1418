/- Layer 8 (locks): what comes of asking, and that it may be. -/
import Derived.Test.YtndehfninoimgaaGreatLockJ
namespace Go.Proofs.YtndehfninoimgaaGreat
open Go.Bur
set_option linter.unusedSimpArgs false
set_option linter.unusedVariables false
set_option maxRecDepth 100000

/-- What an asking does to a queue. -/
def askNew (q : Queue) (t m : Int) : Int × Queue :=
  if coversB (heldL q.holders t) m then (1, q)
  else if goesL q.holders t (supM (heldL q.holders t) m) && (!decide (heldL q.holders t = 0) || decide (q.waiters.length = 0)) then (2, Queue.mk q.res (insH q.holders t (supM (heldL q.holders t) m)) q.waiters)
  else (3, Queue.mk q.res q.holders (standW q.waiters (Wait.mk t (supM (heldL q.holders t) m) (heldL q.holders t))))
theorem set_app {A B : List Queue} {o x : Queue} : List.set (A ++ o :: B) (Int.toNat (A.length : Int)) x = A ++ x :: B := by
  rw [Int.toNat_natCast, List.set_append_right _ _ (Nat.le_refl _), Nat.sub_self]; rfl
theorem occQ_none {t : Int} : ∀ {qs : List Queue} {k : Nat}, occQ t k qs = none → ∀ w ∈ wT qs, w.txn ≠ t
  | [], _, _, w, hw => by cases hw
  | q :: r, k, h, w, hw => by
    unfold occQ at h
    cases ho : occ t 0 q.waiters with
    | some x => rw [ho] at h; cases h
    | none =>
      rw [ho] at h
      rcases List.mem_append.1 (show w ∈ q.waiters ++ wT r from hw) with hw | hw
      · exact occ_none ho w hw
      · exact occQ_none h w hw
theorem held_of {r : Res} {hs : List Hold} {ws : List Wait} (h : PV r hs ws) (t : Int) : ofM r (heldL hs t) = true := by
  by_cases h0 : heldL hs t = 0
  · rw [h0]; exact ofM_zero r
  · obtain ⟨x, hx, _, e⟩ := held_some h0
    rw [← e]
    exact (modeB_iff.1 (h.ok x hx).2).2
theorem pv_nil (r : Res) : PV r [] [] := ⟨.nil, by simp, by simp, by simp, .nil, .nil⟩
section
variable {qs A B : List Queue} {y : Option Queue} {r : Res}
/-- The queue that is asked. -/
def theQ (y : Option Queue) (r : Res) : Queue := y.getD (Queue.mk r [] [])
theorem theQ_res (hc : Cut (cQ r) qs A y B) : (theQ y r).res = r := by
  cases y with
  | none => rfl
  | some q => exact cR_zero (hc.mid q rfl)
theorem theQ_pv (hl : lockB qs = true) (hc : Cut (cQ r) qs A y B) : PV r (theQ y r).holders (theQ y r).waiters ∧ firstB (theQ y r).holders (theQ y r).waiters = true := by
  cases y with
  | none => exact ⟨pv_nil r, rfl⟩
  | some q =>
    have hq : q ∈ qs := by rw [hc.eq]; simp
    obtain ⟨_, _, h3, h4⟩ := qB_iff.1 (lock_q hl q hq)
    have e : q.res = r := theQ_res hc
    rw [e] at h3
    exact ⟨h3, h4⟩
theorem ask1_eq (n : Nat) (hn : 1003 ≤ n) (hl : lockB qs = true) (hz : ∀ q ∈ qs, q.holders.length ≤ 900 ∧ q.waiters.length ≤ 900) (hc : Cut (cQ r) qs A y B) (m t w0 : Int) :
    locks_Ask_1 n qs r m t w0 = some (if resB r && modeB r m then (if (occQ t 0 qs).isSome then (181, r, m, t, w0, qs) else if !y.isSome && decide (500 ≤ qs.length) then (6, r, m, t, w0, qs) else (0, r, m, t, (askNew (theQ y r) t m).1, A ++ (askNew (theQ y r) t m).2 :: B)) else (2, r, m, t, w0, qs)) := by
  have hlen := lock_len hl
  have hsm : SmallL qs := fun q hq => by have := hz q hq; omega
  unfold locks_Ask_1
  simp only [locked_eq, Option.bind_some, jn, of_eq n (by omega)]
  cases hr : resB r with
  | false => rfl
  | true =>
    cases hm : modeB r m with
    | false => rfl
    | true =>
      simp only [Bool.not_true, cond_false, Bool.and_true, if_true, waits_eq n hn (Locks.mk qs) hsm (show qs.length ≤ 1000 by omega), Option.bind_some, qsearch hn hc (show qs.length ≤ 1000 by omega)]
      cases ho : occQ t 0 qs with
      | some z => rfl
      | none =>
        simp only [cond_false, Option.isSome_none, Bool.false_eq_true, if_false]
        have hpv := theQ_pv hl hc
        have hres := theQ_res hc
        have hq0 : (theQ y r).holders.length ≤ 900 ∧ (theQ y r).waiters.length ≤ 900 := by
          cases y with
          | none => exact ⟨by simp [theQ], by simp [theQ]⟩
          | some q => exact hz q (by rw [hc.eq]; simp)
        have hj : locks_Ask_1_j1 n ((A.length : Int), r, m, t, w0, A ++ theQ y r :: B, ()) = some (0, r, m, t, (askNew (theQ y r) t m).1, A ++ (askNew (theQ y r) t m).2 :: B) := by
          generalize theQ y r = q at hpv hres hq0
          have hm2 := (modeB_iff.1 hm)
          have hsup := sup_eq n (by omega) (held_of hpv.1 t) hm2.2
          have hh1 : ∀ x, locks_holds n t x q.res.table q.res.isKey q.res.id q.holders q.waiters = some (q.res.table, q.res.isKey, q.res.id, insH q.holders t x, q.waiters) := fun x => holdsA_eq n hn hpv.1.srt (by omega) t x _ _ _ _
          have hh2 : ∀ w, locks_stands n w q.res.table q.res.isKey q.res.id q.holders q.waiters = some (q.res.table, q.res.isKey, q.res.id, q.holders, standW q.waiters w) := fun w => stands_eq n hn w _ _ _ _ _ (by omega) hpv.1.wr
          unfold locks_Ask_1_j1 askNew
          simp only [idx_app, Option.bind_some, sameI_at, held_eq n hn q (by omega), covers_eq n (by omega), hsup, goesL_eq n hn q (by omega), bne_self_eq_false, cond_false, jn, hh1, hh2, set_app, ibne]
          have hw0 : ((q.waiters.length : Int) == 0) = decide (q.waiters.length = 0) := by rw [ibeq]; exact decide_eq_decide.2 (by omega)
          rw [hw0]
          cases coversB (heldL q.holders t) m with
          | true => rfl
          | false =>
            cases goesL q.holders t (supM (heldL q.holders t) m) <;> cases decide (heldL q.holders t = 0) <;> cases decide (q.waiters.length = 0) <;> rfl
        have he := hc.eq
        cases y with
        | some q =>
          simp only [Option.isSome_some, Bool.not_true, cond_false, Bool.false_and, Bool.false_eq_true, if_false]
          rw [← hj, he]
          rfl
        | none =>
          simp only [Option.isSome_none, Bool.not_false, cond_true, Bool.true_and]
          by_cases h500 : 500 ≤ qs.length
          · rw [decide_eq_true h500, decide_eq_true (show (qs.length : Int) ≥ 500 by omega)]; rfl
          · rw [decide_eq_false h500, decide_eq_false (show ¬ (qs.length : Int) ≥ 500 by omega)]
            have hins : slices_Insert_Queue n (A.length : Int) qs [Queue.mk r [] []] = some (A ++ Queue.mk r [] [] :: B) := by
              unfold slices_Insert_Queue
              exact insL_cut hc _ (by omega) (by omega)
            simp only [cond_false, hins, Option.bind_some, Bool.false_eq_true, if_false]
            exact hj

/-! ### It may be -/
theorem supM_ne {a m : Int} (hm : m ≠ 0) (h : coversB a m = false) : supM a m ≠ 0 := by
  unfold supM
  rw [h]
  simp only [Bool.false_eq_true, if_false]
  split
  · exact hm
  · split <;> omega
theorem goesL_ins {hs : List Hold} {t m x c : Int} (hs' : SrtH hs) (hc : heldL hs t = 0 ∨ coversB m (heldL hs t) = true) (h : goesL (insH hs t m) x c = true) : goesL hs x c = true := by
  rw [goesL_iff] at h ⊢
  intro y hy
  by_cases hyt : y.txn = t
  · rcases h (Hold.mk t m) (mem_insH.2 (.inl rfl)) with e | e
    · exact .inl (by rw [hyt]; exact e)
    · right
      have hym : heldL hs t = y.mode := by rw [← hyt]; exact held_mem hs' hy
      rcases hc with h0 | h1
      · -- it holds none: goes with all that is a mode
        rw [hym] at h0
        rw [h0]
        have e : goesB m c = true := e
        unfold goesB at e ⊢
        simp only [Bool.and_eq_true] at e ⊢
        exact ⟨⟨by decide, e.1.2⟩, by simp⟩
      · rw [hym] at h1
        exact goes_less h1 e
  · exact h y (mem_insH.2 (.inr ⟨hy, hyt⟩))
theorem grant_pv {hs : List Hold} {ws : List Wait} (h : PV r hs ws) {t x : Int} (ht : txnB t = true) (hx : modeB r x = true) (hg : goesL hs t x = true) (hn : ∀ w ∈ ws, w.txn ≠ t) : PV r (insH hs t x) ws := by
  refine ⟨srt_insH h.srt, fun z hz => ?_, fun z hz => goesL_iff.2 fun v hv => ?_, fun w hw => ?_, h.wr, h.nd⟩
  · rcases mem_insH.1 hz with rfl | ⟨hz, _⟩
    · exact ⟨ht, hx⟩
    · exact h.ok z hz
  · rcases mem_insH.1 hz with rfl | ⟨hz, hzn⟩
    · rcases mem_insH.1 hv with rfl | ⟨hv, hvn⟩
      · exact .inl rfl
      · exact goesL_iff.1 hg v hv
    · rcases mem_insH.1 hv with rfl | ⟨hv, hvn⟩
      · right
        rw [goesB_comm]
        exact (goesL_iff.1 hg z hz).resolve_left hzn
      · exact goesL_iff.1 (h.fit z hz) v hv
  · obtain ⟨a', b', c', d'⟩ := wS_iff.1 (h.wok w hw)
    refine wS_iff.2 ⟨a', b', ?_, d'⟩
    rw [held_ins h.srt (hn w hw)]
    exact c'
theorem mem_stand {ws : List Wait} {w x : Wait} : x ∈ standW ws w ↔ x = w ∨ x ∈ ws := by
  unfold standW
  split
  · simp only [List.mem_append, List.mem_singleton]
    exact ⟨fun h => h.symm.imp id id, fun h => h.symm.imp id id⟩
  · simp only [List.mem_append, List.mem_cons, List.mem_filter, Bool.not_eq_true', decide_eq_false_iff_not, decide_eq_true_iff]
    constructor
    · rintro (⟨h, _⟩ | h | ⟨h, _⟩)
      · exact .inr h
      · exact .inl h
      · exact .inr h
    · rintro (h | h)
      · exact .inr (.inl h)
      · by_cases h0 : x.held = 0
        · exact .inr (.inr ⟨h, h0⟩)
        · exact .inl ⟨h, h0⟩
theorem perm_stand {ws : List Wait} {w : Wait} : (standW ws w).Perm (w :: ws) := by
  unfold standW
  split
  · exact List.perm_append_singleton _ _
  · refine List.perm_middle.trans (List.Perm.cons w ?_)
    have := List.filter_append_perm (fun x : Wait => !decide (x.held = 0)) ws
    simpa using this
theorem stand_pv {hs : List Hold} {ws : List Wait} (h : PV r hs ws) {w : Wait} (hw : wS r hs w = true) (hn : ∀ v ∈ ws, v.txn ≠ w.txn) : PV r hs (standW ws w) := by
  refine ⟨h.srt, h.ok, h.fit, fun v hv => ?_, ?_, ?_⟩
  · rcases mem_stand.1 hv with rfl | hv
    · exact hw
    · exact h.wok v hv
  · unfold standW
    split
    · rename_i h0
      rw [List.pairwise_append]
      refine ⟨h.wr, List.pairwise_singleton _ _, fun a _ b hb => ?_⟩
      rw [List.mem_singleton] at hb
      subst hb
      exact wR_iff.2 fun _ => h0
    · rename_i h0
      rw [List.pairwise_append]
      refine ⟨h.wr.filter _, List.pairwise_cons.2 ⟨fun b hb => wR_iff.2 fun e => absurd e h0, h.wr.filter _⟩, fun a ha b hb => ?_⟩
      have ha0 : a.held ≠ 0 := by simpa using (List.mem_filter.1 ha).2
      exact wR_iff.2 fun e => absurd e ha0
  · have hp := (perm_stand (ws := ws) (w := w)).map (·.txn)
    rw [hp.nodup_iff, List.map_cons, List.nodup_cons]
    exact ⟨fun hm => by obtain ⟨v, hv, e⟩ := List.mem_map.1 hm; exact hn v hv e, h.nd⟩
theorem stand_first {hs : List Hold} {ws : List Wait} {w : Wait} (hwr : ws.Pairwise fun a b => wR a b = true) (hf : firstB hs ws = true) (hw : goesL hs w.txn w.mode = false ∨ (w.held = 0 ∧ ws ≠ [])) : firstB hs (standW ws w) = true := by
  by_cases h0 : w.held = 0
  · unfold standW
    rw [if_pos h0]
    cases ws with
    | nil =>
      rcases hw with hw | ⟨_, hw⟩
      · simp [firstB, hw]
      · exact absurd rfl hw
    | cons v vs => exact hf
  · have hgo := hw.resolve_right fun h => h0 h.1
    obtain ⟨A, B, rfl, ha, hb⟩ := conv_split hwr
    rw [stand_split ha hb h0]
    cases A with
    | nil => simp [firstB, hgo]
    | cons v A => exact hf
theorem ask_q {q : Queue} (hr : q.res = r) (hrB : resB r = true) (hpv : PV r q.holders q.waiters) (hf : firstB q.holders q.waiters = true) {t m : Int} (ht : txnB t = true) (hm : modeB r m = true) (hn : ∀ w ∈ q.waiters, w.txn ≠ t) (hne : q.holders = [] → q.waiters = []) : qB (askNew q t m).2 = true ∧ (askNew q t m).2.res = r := by
  have hm2 := modeB_iff.1 hm
  have hof := held_of hpv t
  obtain ⟨s1, s2, s3⟩ := sup_ok hof hm2.2
  unfold askNew
  cases hcv : coversB (heldL q.holders t) m with
  | true =>
    simp only [if_true]
    refine ⟨qB_iff.2 ⟨by rw [hr]; exact hrB, fun e => ?_, by rw [hr]; exact hpv, hf⟩, hr⟩
    have : heldL q.holders t = 0 := by rw [e]; rfl
    rw [this, covers_zero hm2.1] at hcv; cases hcv
  | false =>
    simp only [Bool.false_eq_true, if_false]
    have hwant : modeB r (supM (heldL q.holders t) m) = true := modeB_iff.2 ⟨supM_ne hm2.1 hcv, s1⟩
    cases hg : goesL q.holders t (supM (heldL q.holders t) m) && (!decide (heldL q.holders t = 0) || decide (q.waiters.length = 0)) with
    | true =>
      simp only [if_true]
      rw [Bool.and_eq_true] at hg
      refine ⟨qB_iff.2 ⟨by rw [hr]; exact hrB, ?_, by rw [hr]; exact grant_pv hpv ht hwant hg.1 hn, ?_⟩, hr⟩
      · intro e
        have e : insH q.holders t (supM (heldL q.holders t) m) = [] := e
        have : Hold.mk t (supM (heldL q.holders t) m) ∈ insH q.holders t (supM (heldL q.holders t) m) := mem_insH.2 (.inl rfl)
        rw [e] at this; cases this
      · show firstB (insH q.holders t (supM (heldL q.holders t) m)) q.waiters = true
        cases hws : q.waiters with
        | nil => rfl
        | cons v vs =>
          rw [hws] at hf
          simp only [firstB, Bool.not_eq_true'] at hf ⊢
          cases hgo : goesL (insH q.holders t (supM (heldL q.holders t) m)) v.txn v.mode with
          | false => rfl
          | true => rw [goesL_ins hpv.srt (.inr s2) hgo] at hf; cases hf
    | false =>
      simp only [Bool.false_eq_true, if_false]
      have hw : wS r q.holders (Wait.mk t (supM (heldL q.holders t) m) (heldL q.holders t)) = true := by
        have hno : coversB (heldL q.holders t) (supM (heldL q.holders t) m) = false := by
          cases hx : coversB (heldL q.holders t) (supM (heldL q.holders t) m) with
          | false => rfl
          | true => rw [covers_trans hx s3] at hcv; cases hcv
        exact wS_iff.2 ⟨ht, hwant, rfl, hno, s2⟩
      have hfirst : goesL q.holders t (supM (heldL q.holders t) m) = false ∨ (heldL q.holders t = 0 ∧ q.waiters ≠ []) := by
        rw [Bool.and_eq_false_iff, Bool.or_eq_false_iff] at hg
        rcases hg with hg | ⟨g1, g2⟩
        · exact .inl hg
        · right
          refine ⟨by simpa using g1, fun e => ?_⟩
          rw [e] at g2; simp at g2
      refine ⟨qB_iff.2 ⟨by rw [hr]; exact hrB, fun e => ?_, by rw [hr]; exact stand_pv hpv hw hn, stand_first hpv.wr hf hfirst⟩, hr⟩
      have e : q.holders = [] := e
      rcases hfirst with h | ⟨_, h⟩
      · rw [e] at h; cases h
      · exact h (hne e)
theorem ask_wT {q : Queue} {t m : Int} : ((askNew q t m).2.waiters.map (·.txn)).Perm (q.waiters.map (·.txn)) ∨ ((askNew q t m).2.waiters.map (·.txn)).Perm (t :: q.waiters.map (·.txn)) := by
  unfold askNew
  split
  · exact .inl (List.Perm.refl _)
  · split
    · exact .inl (List.Perm.refl _)
    · exact .inr (perm_stand.map (·.txn))
theorem ask_lock (hl : lockB qs = true) (hc : Cut (cQ r) qs A y B) {t m : Int} (ht : txnB t = true) (hr : resB r = true) (hm : modeB r m = true) (ho : occQ t 0 qs = none) (hy : y.isSome = true ∨ qs.length < 500) : lockB (A ++ (askNew (theQ y r) t m).2 :: B) = true := by
  have hlen := lock_len hl
  have hno := occQ_none ho
  have hpv := theQ_pv hl hc
  have hres := theQ_res hc
  have heq : wT qs = wT A ++ ((theQ y r).waiters ++ wT B) := by
    rw [hc.eq]
    cases y with
    | none => simp [wT, theQ]
    | some q => simp [wT, theQ]
  have hqn : ∀ w ∈ (theQ y r).waiters, w.txn ≠ t := fun w hw => hno w (by rw [heq]; simp [hw])
  have hne : (theQ y r).holders = [] → (theQ y r).waiters = [] := fun e => by
    cases y with
    | none => rfl
    | some q => exact absurd e (qB_iff.1 (lock_q hl q (by rw [hc.eq]; simp))).2.1
  have hq := ask_q hres hr hpv.1 hpv.2 ht hm hqn hne
  have hsrt := lock_srt hl
  rw [hc.eq, List.pairwise_append] at hsrt
  obtain ⟨p1, p2, p3⟩ := hsrt
  rw [List.pairwise_append] at p2
  refine lockB_of ?_ (fun q hqm => ?_) ?_ ?_
  · have h1 := cut_len hc
    simp only [List.length_append, List.length_cons]
    cases y with
    | none =>
      simp only [Option.toList_none, List.length_nil] at h1
      rcases hy with hy | hy
      · cases hy
      · omega
    | some q =>
      simp only [Option.toList_some, List.length_singleton] at h1
      omega
  · rcases List.mem_append.1 hqm with h | h
    · exact lock_q hl q (by rw [hc.eq]; simp [h])
    · rcases List.mem_cons.1 h with rfl | h
      · exact hq.1
      · exact lock_q hl q (by rw [hc.eq]; simp [h])
  · rw [List.pairwise_append]
    refine ⟨p1, List.pairwise_cons.2 ⟨fun b hb => ?_, p2.2.1⟩, fun a ha b hb => ?_⟩
    · show ltR (askNew (theQ y r) t m).2.res b.res = true
      rw [hq.2]
      exact cR_pos (hc.hi b hb)
    · rcases List.mem_cons.1 hb with rfl | hb
      · show ltR a.res (askNew (theQ y r) t m).2.res = true
        rw [hq.2]
        exact cR_lt (hc.lo a ha)
      · exact p3 a ha b (List.mem_append_right _ hb)
  · have hnd := lock_nod hl
    have e2 : wT (A ++ (askNew (theQ y r) t m).2 :: B) = wT A ++ ((askNew (theQ y r) t m).2.waiters ++ wT B) := by simp [wT]
    rw [heq] at hnd hno
    rw [e2]
    simp only [List.map_append] at hnd ⊢
    rcases ask_wT (q := theQ y r) (t := t) (m := m) with hp | hp
    · exact ((hp.append_right ((wT B).map (·.txn))).append_left ((wT A).map (·.txn))).nodup_iff.2 hnd
    · refine (((hp.append_right ((wT B).map (·.txn))).append_left ((wT A).map (·.txn))).trans List.perm_middle).nodup_iff.2 (List.nodup_cons.2 ⟨fun hm => ?_, hnd⟩)
      have hm : t ∈ (wT A ++ ((theQ y r).waiters ++ wT B)).map (·.txn) := by
        rw [List.map_append, List.map_append]; exact hm
      obtain ⟨w, hw, e⟩ := List.mem_map.1 hm
      exact hno w hw e
end
end Go.Proofs.YtndehfninoimgaaGreat

/- Layer 8 (locks): the law LocksTells. -/
namespace Go.Proofs.YtndehfninoimgaaGreat
open Go.Bur
set_option linter.unusedSimpArgs false
set_option linter.unusedVariables false
set_option maxRecDepth 100000

/-! ### Few -/
def cutQ (q : Queue) : Queue := Queue.mk q.res (q.holders.take 20) (q.waiters.take 20)
def fewL (qs : List Queue) : List Queue := (qs.take 501).map cutQ
theorem few_small (qs : List Queue) : SmallM (fewL qs) := fun q hq => by
  obtain ⟨p, _, rfl⟩ := List.mem_map.1 hq
  constructor
  · show (p.holders.take 20).length ≤ 30
    rw [List.length_take]; omega
  · show (p.waiters.take 20).length ≤ 30
    rw [List.length_take]; omega
theorem few_len (qs : List Queue) : (fewL qs).length ≤ 501 := by
  unfold fewL
  rw [List.length_map, List.length_take]; omega
theorem sub20 {α : Type} (l : List α) : sub l 0 (if 20 < (l.length : Int) then 20 else (l.length : Int)) = some (l.take 20) := by
  by_cases h : 20 < (l.length : Int)
  · rw [if_pos h]
    have := sub_ok (l := l) (a := 0) (b := 20) (Nat.zero_le _) (by omega)
    simpa using this
  · rw [if_neg h]
    have := sub_ok (l := l) (a := 0) (b := l.length) (Nat.zero_le _) (Nat.le_refl _)
    rw [List.take_of_length_le (show l.length ≤ 20 by omega)]
    simpa using this
theorem foldl_appG {α β : Type} {f : α → β} : ∀ {l : List α} {s : List β}, l.foldl (fun s x => s ++ [f x]) s = s ++ l.map f
  | [], s => by simp
  | x :: l, s => by rw [List.foldl_cons, foldl_appG]; simp
theorem few_eq (n : Nat) (hn : 1003 ≤ n) (x : Locks) : law08_few n x = some (Locks.mk (fewL x.queues)) := by
  unfold law08_few
  simp only [jn]
  show law08_few_l2 n (law08_few_j1 n) n (x.queues, (x.queues.length : Int), ((0 : Nat) : Int), Locks.mk [], [], ()) = _
  unfold law08_few_l2
  have htl : (x.queues.take 501).length = min 501 x.queues.length := List.length_take
  rw [run_loopI (x.queues.take 501) (fun i (s : List Queue) => (x.queues, (x.queues.length : Int), (i : Int), Locks.mk [], s, ())) (fun _ q s => .inr (s ++ [cutQ q])) (fun s => some (Locks.mk s)) (fun i s => s.length ≤ i) ?_ ?_ ?_ n 0 [] (Nat.zero_le _) (by omega) (Nat.le_refl _)]
  · rw [List.drop_zero, runL_fold (g := fun q s => s ++ [cutQ q]), foldl_appG]; rfl
  · intro i s q s' hx hI he
    cases he
    simp; omega
  · intro r i s q hx hi hI
    have hi1 : i < 501 := by omega
    have hi2 : i < x.queues.length := by omega
    have hq : x.queues[i]? = some q := by rw [← hx, List.getElem?_take_of_lt hi1]
    simp only [lt_dec hi2, cond_true, idx_nat, hq, Option.bind_some, decide_eq_false (show ¬ (i : Int) > 500 by omega), cond_false, sub20]
    have h1 : app 16 ([] : List Hold) (q.holders.take 20) = some (q.holders.take 20) := by rw [app_lt (by simp [List.length_take]; omega) (by omega), List.nil_append]
    have h2 : app 24 ([] : List Wait) (q.waiters.take 20) = some (q.waiters.take 20) := by rw [app_lt (by simp [List.length_take]; omega) (by omega), List.nil_append]
    have h3 : app 64 s [Queue.mk q.res (q.holders.take 20) (q.waiters.take 20)] = some (s ++ [cutQ q]) := app_lt (by simp; omega) (by omega)
    simp only [h1, h2, h3, Option.bind_some, wrap_succ (show i < 4611686018427387904 by omega)]
  · intro r s hI
    rw [htl]
    by_cases h : x.queues.length ≤ 501
    · rw [Nat.min_eq_right h]
      simp only [ge_dec (Nat.lt_irrefl _), cond_false]; rfl
    · rw [Nat.min_eq_left (by omega)]
      simp only [lt_dec (show 501 < x.queues.length by omega), cond_true, idx_nat, get_some (show 501 < x.queues.length by omega), Option.bind_some]
      rfl

/-! ### The layer does something -/
def rW : Res := Res.mk 0 true 7
def lW3 : Locks := Locks.mk [Queue.mk rW [Hold.mk 1 3, Hold.mk 2 3] [Wait.mk 1 5 3]]
def lW1 : Locks := Locks.mk [Queue.mk rW [Hold.mk 1 3] []]
def lW2 : Locks := Locks.mk [Queue.mk rW [Hold.mk 1 3, Hold.mk 2 3] []]
theorem small0 : SmallL (Locks.mk []).queues := fun q hq => by cases hq
theorem small1 {q : Queue} (h : q.holders.length ≤ 1000 ∧ q.waiters.length ≤ 1000) : SmallL (Locks.mk [q]).queues := fun p hp => by
  rw [List.mem_singleton.1 hp]; exact h
theorem wakesL (n : Nat) (hn : 3003 ≤ n) : law08_wakes n = some true := by
  obtain ⟨m, rfl⟩ : ∃ m, n = m + 3003 := ⟨n - 3003, by omega⟩
  have h1 : locks_Ask (m + 3003) (Locks.mk []) 1 rW 3 = some (lW1, 2, 0) := ask_step (r' := rW) (m' := 3) (t' := 1) (by omega) small0 (by decide) (by kernel_rfl) (by kernel_rfl) (by kernel_rfl)
  have h2 : locks_Ask (m + 3003) lW1 2 rW 3 = some (lW2, 2, 0) := ask_step (r' := rW) (m' := 3) (t' := 2) (by omega) (small1 ⟨by decide, by decide⟩) (by decide) (by kernel_rfl) (by kernel_rfl) (by kernel_rfl)
  have h3 : locks_Ask (m + 3003) lW2 1 rW 6 = some (lW3, 3, 0) := ask_step (r' := rW) (m' := 6) (t' := 1) (by omega) (small1 ⟨by decide, by decide⟩) (by decide) (by kernel_rfl) (by kernel_rfl) (by kernel_rfl)
  have hsm : SmallL lW3.queues := small1 ⟨by decide, by decide⟩
  have hl3 : lockB lW3.queues = true := by kernel_rfl
  have h4 : locks_Blockers (m + 3003) lW3 1 = some [2] := by
    rw [blockers_eq _ (by omega) lW3 hsm (by decide)]
    congr 1
    have hb : blkL lW3.queues 1 = cpZ (sortZ [2]) := by
      unfold blkL
      have ho : occQ 1 0 lW3.queues = some (0, Queue.mk rW [Hold.mk 1 3, Hold.mk 2 3] [Wait.mk 1 5 3], 0, Wait.mk 1 5 3) := by kernel_rfl
      rw [ho, hl3]
      rfl
    rw [hb]
    exact up_ext (cp_sort _).1 (by simp) fun x => (cp_sort [2]).2 x
  have h5 : locks_Release (m + 3003) lW3 2 = some (Locks.mk [Queue.mk rW [Hold.mk 1 5] []], [1], 0) := release_step (t' := 2) (by omega) hsm (by decide) hl3 (by kernel_rfl) (by kernel_rfl)
  unfold law08_wakes
  show (locks_Ask (m + 3003) (Locks.mk []) 1 rW 3).bind _ = _
  rw [h1, Option.bind_some]
  show (locks_Ask (m + 3003) lW1 2 rW 3).bind _ = _
  rw [h2, Option.bind_some]
  show (locks_Ask (m + 3003) lW2 1 rW 6).bind _ = _
  rw [h3, Option.bind_some]
  show (locks_Blockers (m + 3003) lW3 1).bind _ = _
  rw [h4, Option.bind_some]
  show (locks_Release (m + 3003) lW3 2).bind _ = _
  rw [h5, Option.bind_some]
  clear h1 h2 h3 h4 h5
  kernel_rfl

/-! ### The law -/
def waitB (qs : List Queue) (t : Int) : Res × Int × Bool := match occQ t 0 qs with
  | some (_, q, _, w) => (q.res, w.mode, true)
  | none => (Res.mk 0 false 0, 0, false)
theorem waitsD_eq (n : Nat) (hn : 1003 ≤ n) (o : Locks) (hs : SmallL o.queues) (hq : o.queues.length ≤ 1000) (t : Int) : locks_Waits n o t = some (if lockB o.queues then waitB o.queues t else (Res.mk 0 false 0, 0, false)) := by
  rw [waitsC_eq n hn o hs hq t]
  unfold waitB
  cases occQ t 0 o.queues with
  | none => cases lockB o.queues <;> rfl
  | some x => cases lockB o.queues <;> rfl
section
variable (n : Nat) (hn : 1000003 ≤ n) (ls : List Locks) (ts : List Int) (xs : List Res) (hx : xs.length < n) (l : Locks) (hs : SmallM l.queues) (hq : l.queues.length ≤ 1000) (L i : Int)
include hn hx hs hq
end
end Go.Proofs.YtndehfninoimgaaGreat

/- Layer 8 (locks): the law LocksServes. -/
namespace Go.Proofs.YtndehfninoimgaaGreat
open Go.Bur
set_option linter.unusedSimpArgs false
set_option linter.unusedVariables false
set_option maxRecDepth 100000

theorem mem_wT {qs : List Queue} {w : Wait} : w ∈ wT qs ↔ ∃ q ∈ qs, w ∈ q.waiters := by unfold wT; exact List.mem_flatMap
theorem modeD_at {t : Int} {x : Res} : ∀ {qs : List Queue}, (qs.Pairwise fun a b => ltQ a b = true) → ∀ q ∈ qs, q.res = x → modeD t x qs = heldL q.holders t
  | [], _, _, h, _ => by cases h
  | p :: r, h, q, hq, he => by
    obtain ⟨h1, h2⟩ := List.pairwise_cons.1 h
    rw [modeD]
    rcases List.mem_cons.1 hq with rfl | hq
    · have : Res.eqb q.res x = true := by rw [he]; simp [Res.eqb]
      rw [this]; rfl
    · cases hpx : Res.eqb p.res x with
      | true =>
        have := h1 q hq
        unfold ltQ at this
        rw [eqb_res hpx, he, ltR_irr] at this; cases this
      | false => exact modeD_at h2 q hq he
/-- How much there is, in each queue. -/
def Sz (qs : List Queue) : Prop := qs.length ≤ 501 ∧ ∀ q ∈ qs, q.holders.length + q.waiters.length ≤ 100
theorem Sz.small {qs : List Queue} (h : Sz qs) : SmallL qs := fun q hq => by have := h.2 q hq; omega
end Go.Proofs.YtndehfninoimgaaGreat

/- Layer 8 (locks): what an op comes to. -/
namespace Go.Proofs.YtndehfninoimgaaGreat
open Go.Bur
set_option linter.unusedSimpArgs false
set_option linter.unusedVariables false
set_option maxRecDepth 100000

theorem with68 (n : Nat) (hn : 1003 ≤ n) (o : Locks) (hs : SmallL o.queues) (hq : o.queues.length ≤ 1000) (t a : Int) (b : List Int) :
    locks_with_f68 n o t a b = if lockB o.queues then (if txnB t then (locks_Leave_1 n o.queues a b).bind fun y => cond (y.1 != 0) (some (Locks.mk [], y.1, y.2.2.1, y.2.2.2)) (some (Locks.mk y.2.1, 0, y.2.2.1, y.2.2.2)) else some (Locks.mk [], 2, a, b)) else some (Locks.mk [], 180, a, b) := by
  unfold locks_with_f68
  rw [check_eq n hn o hs, Option.bind_some]
  cases hl : lockB o.queues with
  | false => rfl
  | true =>
    simp only [if_true, bne_self_eq_false, cond_false, txn_eq, Option.bind_some, cloneQ n _ hq]
    cases ht : txnB t with
    | false => rfl
    | true =>
      simp only [Bool.not_true, cond_false, if_true]
      show locks_with_f68_l1 n n ((o.queues.length : Int), ((0 : Nat) : Int), a, b, Locks.mk [], 0, o.queues, ()) = _
      unfold locks_with_f68_l1
      rw [run_loop o.queues (fun i (_ : Unit) => ((o.queues.length : Int), (i : Int), a, b, Locks.mk [], i, o.queues, ())) (fun _ _ s => .inr s) (fun _ => (locks_Leave_1 n o.queues a b).bind fun y => cond (y.1 != 0) (some (Locks.mk [], y.1, y.2.2.1, y.2.2.2)) (some (Locks.mk y.2.1, 0, y.2.2.1, y.2.2.2))) ?_ ?_ n 0 () (Nat.zero_le _) (by omega)]
      · rw [List.drop_zero, runL_skip]
      · intro r2 i s q hx hi
        have hqq := hs q (List.mem_of_getElem? hx)
        simp only [lt_dec hi, cond_true, idxM_at hx, Option.bind_some, sameI_at, cloneH n _ hqq.1, cloneW n _ hqq.2, set_mk hx, wrap_succ (show i < 4611686018427387904 by omega)]
      · intro r2 s
        simp only [ge_dec (Nat.lt_irrefl _), cond_false, sameN_at, Option.bind_some]
/-- How much there may be, in each queue. -/
def SzK (k : Nat) (qs : List Queue) : Prop := qs.length ≤ 501 ∧ ∀ q ∈ qs, q.holders.length + q.waiters.length ≤ k
theorem SzK.sz {k : Nat} {qs : List Queue} (h : SzK k qs) (hk : k ≤ 100) : Sz qs := ⟨h.1, fun q hq => by have := h.2 q hq; omega⟩
theorem left_szK {k : Nat} {qs : List Queue} (hl : lockB qs = true) (h : SzK k qs) (n : Int) (all : Bool) : SzK k (leftL n all qs) := by
  constructor
  · unfold leftL
    have := List.length_filter_le (fun q : Queue => !decide (q.holders.length = 0)) (qs.map (leftQ n all))
    rw [List.length_map] at this
    have := h.1; omega
  · intro q hq
    obtain ⟨hq, _⟩ := List.mem_filter.1 hq
    obtain ⟨p, hp, rfl⟩ := List.mem_map.1 hq
    have hpv := (qB_iff.1 (lock_q hl p hp)).2.2.1.del n all
    have h1 := (pump_len (ws := p.waiters.filter fun w => !decide (w.txn = n)) hpv.srt).1
    have h2 := List.length_filter_le (fun w : Wait => !decide (w.txn = n)) p.waiters
    have h3 : (if all then p.holders.filter fun x => !decide (x.txn = n) else p.holders).length ≤ p.holders.length := by
      cases all with
      | true => exact List.length_filter_le _ _
      | false => exact Nat.le_refl _
    have := h.2 p hp
    show (pullQ n all p).1.length + (pullQ n all p).2.1.length ≤ k
    unfold pullQ; omega
theorem ask_szQ {q : Queue} {t m : Int} (h : SrtH q.holders) : (askNew q t m).2.holders.length + (askNew q t m).2.waiters.length ≤ q.holders.length + q.waiters.length + 1 := by
  unfold askNew
  split
  · show q.holders.length + q.waiters.length ≤ _
    omega
  · split
    · have := insH_len (t := t) (m := supM (heldL q.holders t) m) h
      show (insH q.holders t (supM (heldL q.holders t) m)).length + q.waiters.length ≤ _
      omega
    · show q.holders.length + (standW q.waiters _).length ≤ _
      rw [perm_stand.length_eq, List.length_cons]; omega
theorem ask_szK {k : Nat} {qs A B : List Queue} {y : Option Queue} {r : Res} (hl : lockB qs = true) (hc : Cut (cQ r) qs A y B) {t m : Int} (h : SzK k qs) (hL : lockB (A ++ (askNew (theQ y r) t m).2 :: B) = true) : SzK (k + 1) (A ++ (askNew (theQ y r) t m).2 :: B) := by
  refine ⟨by have := lock_len hL; omega, fun q hq => ?_⟩
  rcases List.mem_append.1 hq with hq | hq
  · have := h.2 q (by rw [hc.eq]; simp [hq]); omega
  · rcases List.mem_cons.1 hq with rfl | hq
    · have h1 := ask_szQ (t := t) (m := m) (theQ_pv hl hc).1.srt
      have h2 : (theQ y r).holders.length + (theQ y r).waiters.length ≤ k := by
        cases y with
        | none => simp [theQ]
        | some p => exact h.2 p (by rw [hc.eq]; simp)
      omega
    · have := h.2 q (by rw [hc.eq]; simp [hq]); omega

/-! ### What an op comes to -/
def zOp (o : law08_Op) : Int := (IntKind.wrap .u64 o.kind).tmod 7
theorem zOp_eq (o : law08_Op) : remP (IntKind.wrap .u64 o.kind) 7 = some (zOp o) := by
  unfold remP zOp
  rfl
/-- An op that comes to something. -/
structure Done (o : law08_Op) (qs : List Queue) (td : law08_told) : Prop where
  lock : lockB qs = true
  txn : txnB o.txn = true
  way : (zOp o = 5 ∧ td.l = Locks.mk (leftL o.txn true qs) ∧ td.granted = grantL o.txn true qs) ∨
    (zOp o = 6 ∧ td.l = Locks.mk (leftL o.txn false qs) ∧ td.granted = grantL o.txn false qs) ∨
    (zOp o ≠ 5 ∧ zOp o ≠ 6 ∧ td.granted = [] ∧ resB o.res = true ∧ modeB o.res o.mode = true ∧ occQ o.txn 0 qs = none ∧ ∃ A y B, Cut (cQ o.res) qs A y B ∧ (y.isSome = true ∨ qs.length < 500) ∧
      td.l = Locks.mk (A ++ (askNew (theQ y o.res) o.txn o.mode).2 :: B) ∧ td.what = (askNew (theQ y o.res) o.txn o.mode).1)
theorem run_eq (n : Nat) (hn : 1003 ≤ n) (o : law08_Op) {qs : List Queue} (hz : SzK 100 qs) : ∃ td, law08_Op_run n o (Locks.mk qs) = some td ∧ (td.e ≠ 0 ∨ (td.e = 0 ∧ Done o qs td)) := by
  have hs := (hz.sz (Nat.le_refl _)).small
  have hq : (Locks.mk qs).queues.length ≤ 1000 := by have := hz.1; show qs.length ≤ 1000; omega
  have hwo : ∀ (hl : lockB qs = true) all, locks_without n o.txn all qs = some (leftL o.txn all qs, grantL o.txn all qs) := fun hl all => without_eq n hn o.txn all qs hq fun q hqm => ⟨(qB_iff.1 (lock_q hl q hqm)).2.2.1.srt, by have := hz.2 q hqm; omega, by have := hz.2 q hqm; omega⟩
  unfold law08_Op_run
  rw [zOp_eq, Option.bind_some]
  simp only [jn, ibeq, law08_Op_run_j1, law08_Op_run_j2]
  by_cases h5 : zOp o = 5
  · rw [decide_eq_true h5]
    simp only [cond_true, locks_Release, with66 n hn (Locks.mk qs) hs hq]
    cases hl : lockB qs with
    | false => exact ⟨_, rfl, .inl (show (180 : Int) ≠ 0 by decide)⟩
    | true =>
      cases ht : txnB o.txn with
      | false => exact ⟨_, rfl, .inl (show (2 : Int) ≠ 0 by decide)⟩
      | true =>
        simp only [if_true, locks_Release_1, hwo hl, Option.bind_some]
        exact ⟨_, rfl, .inr ⟨rfl, hl, ht, .inl ⟨h5, rfl, rfl⟩⟩⟩
  · rw [decide_eq_false h5]
    by_cases h6 : zOp o = 6
    · rw [decide_eq_true h6]
      simp only [cond_false, cond_true, locks_Leave, with68 n hn (Locks.mk qs) hs hq]
      cases hl : lockB qs with
      | false => exact ⟨_, rfl, .inl (show (180 : Int) ≠ 0 by decide)⟩
      | true =>
        cases ht : txnB o.txn with
        | false => exact ⟨_, rfl, .inl (show (2 : Int) ≠ 0 by decide)⟩
        | true =>
          simp only [if_true, locks_Leave_1, waits_eq n hn (Locks.mk qs) hs hq, Option.bind_some]
          cases ho : occQ o.txn 0 qs with
          | none => exact ⟨_, rfl, .inl (show (4 : Int) ≠ 0 by decide)⟩
          | some z =>
            simp only [Bool.not_true, cond_false, hwo hl, Option.bind_some]
            exact ⟨_, rfl, .inr ⟨rfl, hl, ht, .inr (.inl ⟨h6, rfl, rfl⟩)⟩⟩
    · rw [decide_eq_false h6]
      simp only [cond_false, locks_Ask, with56 n hn (Locks.mk qs) hs hq]
      cases hl : lockB qs with
      | false => exact ⟨_, rfl, .inl (show (180 : Int) ≠ 0 by decide)⟩
      | true =>
        cases ht : txnB o.txn with
        | false => exact ⟨_, rfl, .inl (show (2 : Int) ≠ 0 by decide)⟩
        | true =>
          obtain ⟨A, y, B, hc⟩ := cutQ' o.res (lock_srt hl)
          simp only [if_true, ask1_eq n hn hl (fun q hqm => by have := hz.2 q hqm; omega) hc o.mode o.txn 0, Option.bind_some]
          cases hrm : resB o.res && modeB o.res o.mode with
          | false => exact ⟨_, rfl, .inl (show (2 : Int) ≠ 0 by decide)⟩
          | true =>
            simp only [if_true]
            cases ho : (occQ o.txn 0 qs).isSome with
            | true => exact ⟨_, rfl, .inl (show (181 : Int) ≠ 0 by decide)⟩
            | false =>
              cases hf : !y.isSome && decide (500 ≤ qs.length) with
              | true => exact ⟨_, rfl, .inl (show (6 : Int) ≠ 0 by decide)⟩
              | false =>
                rw [Bool.and_eq_true] at hrm
                refine ⟨_, rfl, .inr ⟨rfl, hl, ht, .inr (.inr ⟨h5, h6, rfl, hrm.1, hrm.2, by simpa using ho, A, y, B, hc, ?_, rfl, rfl⟩)⟩⟩
                rw [Bool.and_eq_false_iff] at hf
                rcases hf with hf | hf
                · exact .inl (by simpa using hf)
                · exact .inr (by simpa using hf)
theorem Done.ok {o : law08_Op} {qs : List Queue} {td : law08_told} (h : Done o qs td) : lockB td.l.queues = true := by
  rcases h.way with ⟨_, e, _⟩ | ⟨_, e, _⟩ | ⟨_, _, _, hr, hm, ho, A, y, B, hc, hy, e, _⟩
  · rw [e]; exact left_ok h.lock _ _
  · rw [e]; exact left_ok h.lock _ _
  · rw [e]; exact ask_lock h.lock hc h.txn hr hm ho hy
theorem Done.sz {k : Nat} {o : law08_Op} {qs : List Queue} {td : law08_told} (h : Done o qs td) (hz : SzK k qs) : SzK (k + 1) td.l.queues := by
  have up : ∀ {ps : List Queue}, SzK k ps → SzK (k + 1) ps := fun h => ⟨h.1, fun q hq => by have := h.2 q hq; omega⟩
  have hok := h.ok
  rcases h.way with ⟨_, e, _⟩ | ⟨_, e, _⟩ | ⟨_, _, _, hr, hm, ho, A, y, B, hc, hy, e, _⟩
  · rw [e]; exact up (left_szK h.lock hz _ _)
  · rw [e]; exact up (left_szK h.lock hz _ _)
  · rw [e] at hok ⊢; exact ask_szK h.lock hc hz hok
end Go.Proofs.YtndehfninoimgaaGreat

/- Layer 8 (locks): the law LocksAlone. -/
namespace Go.Proofs.YtndehfninoimgaaGreat
open Go.Bur
set_option linter.unusedSimpArgs false
set_option linter.unusedVariables false
set_option maxRecDepth 100000

theorem eqb_self (a : Res) : Res.eqb a a = true := by simp [Res.eqb]
/-- Whether others hold it, or wait for it. -/
def othQ (t : Int) (r : Res) (q : Queue) : Bool := Res.eqb q.res r && ((q.holders.any fun h => !decide (h.txn = t)) || decide (0 < q.waiters.length))
theorem runL_or {α R : Type} {f : α → Bool} {fin : Bool → Option R} : ∀ (l : List α) (i : Nat) (s : Bool), runL (fun _ x s => .inr (s || f x)) fin l i s = fin (s || l.any f)
  | [], _, s => by simp [runL]
  | x :: l, i, s => by
    show runL (fun _ x s => .inr (s || f x)) fin l (i + 1) (s || f x) = _
    rw [runL_or l (i + 1), List.any_cons, Bool.or_assoc]
/-- What the law's walk ends in. -/
def endA (n : Nat) (o : law08_Op) (td : law08_told) (oth : Bool) : Option Bool := (locks_Mode n td.l o.txn o.res).bind fun y50 =>
  (locks_Waits n td.l o.txn).bind fun y51 =>
  cond y51.2.2
    (cond oth (cond (td.what == 3) (cond (Res.eqb y51.1 o.res) ((mode_Covers n y51.2.1 o.mode).bind fun y61 => cond y61 ((mode_Covers n y50 o.mode).bind fun y60 => some (!y60)) (some false)) (some false)) (some false)) (some false))
    (cond (td.what != 3) ((mode_Covers n y50 o.mode).bind fun y64 => some y64) (some false))
theorem alone1 (n : Nat) (hn : 1003 ≤ n) (qs : List Queue) (hq : qs.length ≤ 1000) (hs : SmallL qs) (o : law08_Op) (td : law08_told) : law08_LocksAlone_l1 n n (false, qs, (qs.length : Int), 0, o, td, ()) = endA n o td (qs.any (othQ o.txn o.res)) := by
  show law08_LocksAlone_l1 n n (false, qs, (qs.length : Int), ((0 : Nat) : Int), o, td, ()) = _
  unfold law08_LocksAlone_l1
  rw [run_loop qs (fun i (s : Bool) => (s, qs, (qs.length : Int), (i : Int), o, td, ())) (fun _ q s => .inr (s || othQ o.txn o.res q)) (fun s => endA n o td s) ?_ ?_ n 0 false (Nat.zero_le _) (by omega)]
  · rw [List.drop_zero, runL_or, Bool.false_or]
  · intro r i s q hx hi
    have hh := (hs q (List.mem_of_getElem? hx)).1
    simp only [lt_dec hi, cond_true, idx_nat, hx, Option.bind_some, jn]
    unfold othQ
    cases he : Res.eqb q.res o.res with
    | false =>
      simp only [Bool.not_false, cond_true, law08_LocksAlone_j2, Bool.false_and, Bool.or_false, wrap_succ (show i < 4611686018427387904 by omega)]
    | true =>
      simp only [Bool.not_true, cond_false, Bool.true_and]
      show law08_LocksAlone_l3 n (law08_LocksAlone_j2 n r) n (s, qs, (qs.length : Int), (i : Int), q.holders, (q.holders.length : Int), ((0 : Nat) : Int), o, td, q, ()) = _
      unfold law08_LocksAlone_l3
      rw [run_loop q.holders (fun k (z : Bool) => (z, qs, (qs.length : Int), (i : Int), q.holders, (q.holders.length : Int), (k : Int), o, td, q, ())) (fun _ h z => .inr (z || !decide (h.txn = o.txn))) (fun z => r (z || decide (0 < q.waiters.length), qs, (qs.length : Int), ((i + 1 : Nat) : Int), o, td, ())) ?_ ?_ n 0 s (Nat.zero_le _) (by omega)]
      · rw [List.drop_zero, runL_or, Bool.or_assoc]
      · intro r2 k z h hy hk
        simp only [lt_dec hk, cond_true, idx_nat, hy, Option.bind_some, jn, ibne, wrap_succ (show k < 4611686018427387904 by omega)]
        cases z <;> rfl
      · intro r2 z
        have e : decide ((q.waiters.length : Int) > 0) = decide (0 < q.waiters.length) := decide_eq_decide.2 (by omega)
        simp only [ge_dec (Nat.lt_irrefl _), cond_false, jn, law08_LocksAlone_j2, e, wrap_succ (show i < 4611686018427387904 by omega)]
        cases z <;> rfl
  · intro r s
    simp only [ge_dec (Nat.lt_irrefl _), cond_false, jn]
    unfold endA
    congr 1
theorem wait_none {qs : List Queue} {t : Int} (h : ∀ w ∈ wT qs, w.txn ≠ t) : waitB qs t = (Res.mk 0 false 0, 0, false) := by
  unfold waitB
  cases ho : occQ t 0 qs with
  | none => rfl
  | some z =>
    obtain ⟨i', q', b', w'⟩ := z
    obtain ⟨⟨j', _, hj'⟩, hb', hw'⟩ := occQ_some ho
    exact absurd hw' (h w' (mem_wT.2 ⟨q', List.mem_of_getElem? hj', List.mem_of_getElem? hb'⟩))
theorem wait_at {qs : List Queue} (hl : lockB qs = true) {q : Queue} (hq : q ∈ qs) {w : Wait} (hw : w ∈ q.waiters) : waitB qs w.txn = (q.res, w.mode, true) := by
  obtain ⟨b, hb⟩ := List.mem_iff_getElem?.1 hw
  obtain ⟨i, e⟩ := occ_uniq (k := 0) (lock_nod hl) q hq b w hb rfl
  unfold waitB
  rw [e]
theorem endA_ask (n : Nat) (hn : 1003 ≤ n) {o : law08_Op} {qs : List Queue} {td : law08_told} (hz : SzK 50 qs) (hd : Done o qs td) (h5 : zOp o ≠ 5) (h6 : zOp o ≠ 6) : endA n o td (qs.any (othQ o.txn o.res)) = some true := by
  have hok := hd.ok
  have hsz := (hd.sz hz).sz (by omega)
  rcases hd.way with ⟨e, _⟩ | ⟨e, _⟩ | ⟨_, _, _, hr, hm, ho, A, y, B, hc, hy, e, hwhat⟩
  · exact absurd e h5
  · exact absurd e h6
  have hl := hd.lock
  have hno := occQ_none ho
  have hpv := theQ_pv hl hc
  have hres := theQ_res hc
  have hm2 := modeB_iff.1 hm
  obtain ⟨s1, s2, s3⟩ := sup_ok (held_of hpv.1 o.txn) hm2.2
  have hq1r : (askNew (theQ y o.res) o.txn o.mode).2.res = o.res := by
    unfold askNew
    split
    · exact hres
    · split
      · exact hres
      · exact hres
  unfold endA
  rw [e] at hok hsz ⊢
  have hzl : (A ++ (askNew (theQ y o.res) o.txn o.mode).2 :: B).length ≤ 1000 := by
    have h501 : (A ++ (askNew (theQ y o.res) o.txn o.mode).2 :: B).length ≤ 501 := hsz.1
    omega
  have hmem : (askNew (theQ y o.res) o.txn o.mode).2 ∈ A ++ (askNew (theQ y o.res) o.txn o.mode).2 :: B := by simp
  have hmode : locks_Mode n (Locks.mk (A ++ (askNew (theQ y o.res) o.txn o.mode).2 :: B)) o.txn o.res = some (heldL (askNew (theQ y o.res) o.txn o.mode).2.holders o.txn) := by
    rw [modeC_eq n hn _ hsz.small hzl, if_pos hok, modeCD (lock_srt hok), modeD_at (lock_srt hok) _ hmem hq1r]
  have hwait := waitsD_eq n hn (Locks.mk (A ++ (askNew (theQ y o.res) o.txn o.mode).2 :: B)) hsz.small hzl o.txn
  rw [if_pos hok] at hwait
  rw [hmode, Option.bind_some, hwait, Option.bind_some, hwhat]
  have hAB : ∀ w, w ∈ wT A ∨ w ∈ wT B ∨ w ∈ (theQ y o.res).waiters → w.txn ≠ o.txn := fun w hw => by
    refine hno w ?_
    rw [hc.eq]
    rcases hw with hw | hw | hw
    · simp [wT] at hw ⊢; exact .inl hw
    · simp [wT] at hw ⊢; exact .inr (.inr hw)
    · cases y with
      | none => simp [theQ] at hw
      | some q => simp [wT, theQ] at hw ⊢; exact .inr (.inl hw)
  have hnone : (askNew (theQ y o.res) o.txn o.mode).2.waiters = (theQ y o.res).waiters → waitB (A ++ (askNew (theQ y o.res) o.txn o.mode).2 :: B) o.txn = (Res.mk 0 false 0, 0, false) := fun hw => by
    refine wait_none fun w hwm => ?_
    have e2 : wT (A ++ (askNew (theQ y o.res) o.txn o.mode).2 :: B) = wT A ++ ((askNew (theQ y o.res) o.txn o.mode).2.waiters ++ wT B) := by simp [wT]
    rw [e2, hw] at hwm
    rcases List.mem_append.1 hwm with h | h
    · exact hAB w (.inl h)
    · rcases List.mem_append.1 h with h | h
      · exact hAB w (.inr (.inr h))
      · exact hAB w (.inr (.inl h))
  cases hcv : coversB (heldL (theQ y o.res).holders o.txn) o.mode with
  | true =>
    have ha : askNew (theQ y o.res) o.txn o.mode = (1, theQ y o.res) := by unfold askNew; rw [hcv]; rfl
    rw [hnone (by rw [ha])]
    rw [ha]
    simp only [cond_false, covers_eq n (by omega), Option.bind_some, hcv]
    rfl
  | false =>
    cases hg : goesL (theQ y o.res).holders o.txn (supM (heldL (theQ y o.res).holders o.txn) o.mode) && (!decide (heldL (theQ y o.res).holders o.txn = 0) || decide ((theQ y o.res).waiters.length = 0)) with
    | true =>
      have ha : askNew (theQ y o.res) o.txn o.mode = (2, Queue.mk (theQ y o.res).res (insH (theQ y o.res).holders o.txn (supM (heldL (theQ y o.res).holders o.txn) o.mode)) (theQ y o.res).waiters) := by unfold askNew; rw [hcv, hg]; rfl
      rw [hnone (by rw [ha])]
      rw [ha]
      simp only [cond_false, covers_eq n (by omega), Option.bind_some, held_ins_self hpv.1.srt, s3]
      rfl
    | false =>
      have ha : askNew (theQ y o.res) o.txn o.mode = (3, Queue.mk (theQ y o.res).res (theQ y o.res).holders (standW (theQ y o.res).waiters (Wait.mk o.txn (supM (heldL (theQ y o.res).holders o.txn) o.mode) (heldL (theQ y o.res).holders o.txn)))) := by unfold askNew; rw [hcv, hg]; rfl
      have hwb := wait_at hok hmem (w := Wait.mk o.txn (supM (heldL (theQ y o.res).holders o.txn) o.mode) (heldL (theQ y o.res).holders o.txn)) (by rw [ha]; exact mem_stand.2 (.inl rfl))
      have hwb : waitB (A ++ (askNew (theQ y o.res) o.txn o.mode).2 :: B) o.txn = ((askNew (theQ y o.res) o.txn o.mode).2.res, supM (heldL (theQ y o.res).holders o.txn) o.mode, true) := hwb
      rw [hwb, hq1r]
      have hoth : qs.any (othQ o.txn o.res) = true := by
        rw [List.any_eq_true]
        cases y with
        | none =>
          simp [theQ, heldL, goesL] at hg
        | some q =>
          refine ⟨q, by rw [hc.eq]; simp, ?_⟩
          have hqr : q.res = o.res := hres
          unfold othQ
          rw [hqr, eqb_self, Bool.true_and, Bool.or_eq_true]
          have hg : (goesL q.holders o.txn (supM (heldL q.holders o.txn) o.mode) && (!decide (heldL q.holders o.txn = 0) || decide (q.waiters.length = 0))) = false := hg
          rw [Bool.and_eq_false_iff, Bool.or_eq_false_iff] at hg
          rcases hg with hg | ⟨_, hg⟩
          · left
            rw [List.any_eq_true]
            refine Classical.byContradiction fun hnot => ?_
            have : goesL q.holders o.txn (supM (heldL q.holders o.txn) o.mode) = true := goesL_iff.2 fun x hx => by
              by_cases hxt : x.txn = o.txn
              · exact .inl hxt
              · exact absurd ⟨x, hx, by simpa using hxt⟩ hnot
            rw [this] at hg; cases hg
          · right
            have : ¬ q.waiters.length = 0 := of_decide_eq_false hg
            exact decide_eq_true (by omega)
      rw [hoth, ha]
      simp only [cond_true, eqb_self, covers_eq n (by omega), Option.bind_some, s3, hcv]
      rfl
theorem plainLocksAlone (x : Locks) (o : law08_Op) (h1 : okT tab 9 (.st 4) x) (h2 : okT tab 9 (.st 6) o) : ∃ n, law08_LocksAlone n x o = some true := by
  obtain ⟨n, hn⟩ : ∃ n, 1000003 ≤ n := ⟨1000003, Nat.le_refl _⟩
  refine ⟨n, ?_⟩
  have hsm := few_small x.queues
  have hlen := few_len x.queues
  have hsz : SzK 50 (fewL x.queues) := ⟨hlen, fun q hq => by
    obtain ⟨p, _, rfl⟩ := List.mem_map.1 hq
    show (p.holders.take 20).length + (p.waiters.take 20).length ≤ 50
    rw [List.length_take, List.length_take]; omega⟩
  have hsz2 : SzK 100 (fewL x.queues) := ⟨hlen, fun q hq => by have := hsz.2 q hq; omega⟩
  unfold law08_LocksAlone
  simp only [wakesL n (by omega), Option.bind_some, Bool.not_true, cond_false, few_eq n (by omega)]
  generalize fewL x.queues = qs at hsm hlen hsz hsz2
  obtain ⟨td, hrun, hcase⟩ := run_eq n (by omega) o hsz2
  simp only [hrun, Option.bind_some, jn, ibne, zOp_eq]
  rcases hcase with he | ⟨he, hd⟩
  · rw [decide_eq_false he]; rfl
  · rw [decide_eq_true he]
    simp only [Bool.not_true, cond_false]
    by_cases hk : zOp o > 4
    · rw [decide_eq_true hk]; rfl
    · rw [decide_eq_false hk]
      simp only [cond_false]
      rw [alone1 n (by omega) qs (by omega) hsm.l o td]
      exact endA_ask n (by omega) hsz hd (by omega) (by omega)
end Go.Proofs.YtndehfninoimgaaGreat
