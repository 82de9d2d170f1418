/- Layer 8 (locks): what comes of asking, and that it may be. -/
import Derived.Test.YtndehfninoimgaaGreatLockJ
namespace Go.Proofs.YtndehfninoimgaaGreat
open Go.Bur
set_option linter.unusedSimpArgs false
set_option linter.unusedVariables false
set_option maxRecDepth 100000

/-- What an asking does to a queue. -/
def askNew (q : Queue) (t m : Int) : Int × Queue :=
  if coversB (heldL q.holders t) m then (1, q)
  else if goesL q.holders t (supM (heldL q.holders t) m) && (!decide (heldL q.holders t = 0) || decide (q.waiters.length = 0)) then (2, Queue.mk q.res (insH q.holders t (supM (heldL q.holders t) m)) q.waiters)
  else (3, Queue.mk q.res q.holders (standW q.waiters (Wait.mk t (supM (heldL q.holders t) m) (heldL q.holders t))))
theorem set_app {A B : List Queue} {o x : Queue} : List.set (A ++ o :: B) (Int.toNat (A.length : Int)) x = A ++ x :: B := by
  rw [Int.toNat_natCast, List.set_append_right _ _ (Nat.le_refl _), Nat.sub_self]; rfl
theorem occQ_none {t : Int} : ∀ {qs : List Queue} {k : Nat}, occQ t k qs = none → ∀ w ∈ wT qs, w.txn ≠ t
  | [], _, _, w, hw => by cases hw
  | q :: r, k, h, w, hw => by
    unfold occQ at h
    cases ho : occ t 0 q.waiters with
    | some x => rw [ho] at h; cases h
    | none =>
      rw [ho] at h
      rcases List.mem_append.1 (show w ∈ q.waiters ++ wT r from hw) with hw | hw
      · exact occ_none ho w hw
      · exact occQ_none h w hw
theorem held_of {r : Res} {hs : List Hold} {ws : List Wait} (h : PV r hs ws) (t : Int) : ofM r (heldL hs t) = true := by
  by_cases h0 : heldL hs t = 0
  · rw [h0]; exact ofM_zero r
  · obtain ⟨x, hx, _, e⟩ := held_some h0
    rw [← e]
    exact (modeB_iff.1 (h.ok x hx).2).2
theorem pv_nil (r : Res) : PV r [] [] := ⟨.nil, by simp, by simp, by simp, .nil, .nil⟩
section
variable {qs A B : List Queue} {y : Option Queue} {r : Res}
/-- The queue that is asked. -/
def theQ (y : Option Queue) (r : Res) : Queue := y.getD (Queue.mk r [] [])
theorem theQ_res (hc : Cut (cQ r) qs A y B) : (theQ y r).res = r := by
  cases y with
  | none => rfl
  | some q => exact cR_zero (hc.mid q rfl)
theorem theQ_pv (hl : lockB qs = true) (hc : Cut (cQ r) qs A y B) : PV r (theQ y r).holders (theQ y r).waiters ∧ firstB (theQ y r).holders (theQ y r).waiters = true := by
  cases y with
  | none => exact ⟨pv_nil r, rfl⟩
  | some q =>
    have hq : q ∈ qs := by rw [hc.eq]; simp
    obtain ⟨_, _, h3, h4⟩ := qB_iff.1 (lock_q hl q hq)
    have e : q.res = r := theQ_res hc
    rw [e] at h3
    exact ⟨h3, h4⟩
theorem ask1_eq (n : Nat) (hn : 1003 ≤ n) (hl : lockB qs = true) (hz : ∀ q ∈ qs, q.holders.length ≤ 900 ∧ q.waiters.length ≤ 900) (hc : Cut (cQ r) qs A y B) (m t w0 : Int) :
    locks_Ask_1 n qs r m t w0 = some (if resB r && modeB r m then (if (occQ t 0 qs).isSome then (181, r, m, t, w0, qs) else if !y.isSome && decide (500 ≤ qs.length) then (6, r, m, t, w0, qs) else (0, r, m, t, (askNew (theQ y r) t m).1, A ++ (askNew (theQ y r) t m).2 :: B)) else (2, r, m, t, w0, qs)) := by
  have hlen := lock_len hl
  have hsm : SmallL qs := fun q hq => by have := hz q hq; omega
  unfold locks_Ask_1
  simp only [locked_eq, Option.bind_some, jn, of_eq n (by omega)]
  cases hr : resB r with
  | false => rfl
  | true =>
    cases hm : modeB r m with
    | false => rfl
    | true =>
      simp only [Bool.not_true, cond_false, Bool.and_true, if_true, waits_eq n hn (Locks.mk qs) hsm (show qs.length ≤ 1000 by omega), Option.bind_some, qsearch hn hc (show qs.length ≤ 1000 by omega)]
      cases ho : occQ t 0 qs with
      | some z => rfl
      | none =>
        simp only [cond_false, Option.isSome_none, Bool.false_eq_true, if_false]
        have hpv := theQ_pv hl hc
        have hres := theQ_res hc
        have hq0 : (theQ y r).holders.length ≤ 900 ∧ (theQ y r).waiters.length ≤ 900 := by
          cases y with
          | none => exact ⟨by simp [theQ], by simp [theQ]⟩
          | some q => exact hz q (by rw [hc.eq]; simp)
        have hj : locks_Ask_1_j1 n ((A.length : Int), r, m, t, w0, A ++ theQ y r :: B, ()) = some (0, r, m, t, (askNew (theQ y r) t m).1, A ++ (askNew (theQ y r) t m).2 :: B) := by
          generalize theQ y r = q at hpv hres hq0
          have hm2 := (modeB_iff.1 hm)
          have hsup := sup_eq n (by omega) (held_of hpv.1 t) hm2.2
          have hh1 : ∀ x, locks_holds n t x q.res.table q.res.isKey q.res.id q.holders q.waiters = some (q.res.table, q.res.isKey, q.res.id, insH q.holders t x, q.waiters) := fun x => holdsA_eq n hn hpv.1.srt (by omega) t x _ _ _ _
          have hh2 : ∀ w, locks_stands n w q.res.table q.res.isKey q.res.id q.holders q.waiters = some (q.res.table, q.res.isKey, q.res.id, q.holders, standW q.waiters w) := fun w => stands_eq n hn w _ _ _ _ _ (by omega) hpv.1.wr
          unfold locks_Ask_1_j1 askNew
          simp only [idx_app, Option.bind_some, sameI_at, held_eq n hn q (by omega), covers_eq n (by omega), hsup, goesL_eq n hn q (by omega), bne_self_eq_false, cond_false, jn, hh1, hh2, set_app, ibne]
          have hw0 : ((q.waiters.length : Int) == 0) = decide (q.waiters.length = 0) := by rw [ibeq]; exact decide_eq_decide.2 (by omega)
          rw [hw0]
          cases coversB (heldL q.holders t) m with
          | true => rfl
          | false =>
            cases goesL q.holders t (supM (heldL q.holders t) m) <;> cases decide (heldL q.holders t = 0) <;> cases decide (q.waiters.length = 0) <;> rfl
        have he := hc.eq
        cases y with
        | some q =>
          simp only [Option.isSome_some, Bool.not_true, cond_false, Bool.false_and, Bool.false_eq_true, if_false]
          rw [← hj, he]
          rfl
        | none =>
          simp only [Option.isSome_none, Bool.not_false, cond_true, Bool.true_and]
          by_cases h500 : 500 ≤ qs.length
          · rw [decide_eq_true h500, decide_eq_true (show (qs.length : Int) ≥ 500 by omega)]; rfl
          · rw [decide_eq_false h500, decide_eq_false (show ¬ (qs.length : Int) ≥ 500 by omega)]
            have hins : slices_Insert_Queue n (A.length : Int) qs [Queue.mk r [] []] = some (A ++ Queue.mk r [] [] :: B) := by
              unfold slices_Insert_Queue
              exact insL_cut hc _ (by omega) (by omega)
            simp only [cond_false, hins, Option.bind_some, Bool.false_eq_true, if_false]
            exact hj

/-! ### It may be -/
theorem supM_ne {a m : Int} (hm : m ≠ 0) (h : coversB a m = false) : supM a m ≠ 0 := by
  unfold supM
  rw [h]
  simp only [Bool.false_eq_true, if_false]
  split
  · exact hm
  · split <;> omega
theorem goesL_ins {hs : List Hold} {t m x c : Int} (hs' : SrtH hs) (hc : heldL hs t = 0 ∨ coversB m (heldL hs t) = true) (h : goesL (insH hs t m) x c = true) : goesL hs x c = true := by
  rw [goesL_iff] at h ⊢
  intro y hy
  by_cases hyt : y.txn = t
  · rcases h (Hold.mk t m) (mem_insH.2 (.inl rfl)) with e | e
    · exact .inl (by rw [hyt]; exact e)
    · right
      have hym : heldL hs t = y.mode := by rw [← hyt]; exact held_mem hs' hy
      rcases hc with h0 | h1
      · -- it holds none: goes with all that is a mode
        rw [hym] at h0
        rw [h0]
        have e : goesB m c = true := e
        unfold goesB at e ⊢
        simp only [Bool.and_eq_true] at e ⊢
        exact ⟨⟨by decide, e.1.2⟩, by simp⟩
      · rw [hym] at h1
        exact goes_less h1 e
  · exact h y (mem_insH.2 (.inr ⟨hy, hyt⟩))
theorem grant_pv {hs : List Hold} {ws : List Wait} (h : PV r hs ws) {t x : Int} (ht : txnB t = true) (hx : modeB r x = true) (hg : goesL hs t x = true) (hn : ∀ w ∈ ws, w.txn ≠ t) : PV r (insH hs t x) ws := by
  refine ⟨srt_insH h.srt, fun z hz => ?_, fun z hz => goesL_iff.2 fun v hv => ?_, fun w hw => ?_, h.wr, h.nd⟩
  · rcases mem_insH.1 hz with rfl | ⟨hz, _⟩
    · exact ⟨ht, hx⟩
    · exact h.ok z hz
  · rcases mem_insH.1 hz with rfl | ⟨hz, hzn⟩
    · rcases mem_insH.1 hv with rfl | ⟨hv, hvn⟩
      · exact .inl rfl
      · exact goesL_iff.1 hg v hv
    · rcases mem_insH.1 hv with rfl | ⟨hv, hvn⟩
      · right
        rw [goesB_comm]
        exact (goesL_iff.1 hg z hz).resolve_left hzn
      · exact goesL_iff.1 (h.fit z hz) v hv
  · obtain ⟨a', b', c', d'⟩ := wS_iff.1 (h.wok w hw)
    refine wS_iff.2 ⟨a', b', ?_, d'⟩
    rw [held_ins h.srt (hn w hw)]
    exact c'
theorem mem_stand {ws : List Wait} {w x : Wait} : x ∈ standW ws w ↔ x = w ∨ x ∈ ws := by
  unfold standW
  split
  · simp only [List.mem_append, List.mem_singleton]
    exact ⟨fun h => h.symm.imp id id, fun h => h.symm.imp id id⟩
  · simp only [List.mem_append, List.mem_cons, List.mem_filter, Bool.not_eq_true', decide_eq_false_iff_not, decide_eq_true_iff]
    constructor
    · rintro (⟨h, _⟩ | h | ⟨h, _⟩)
      · exact .inr h
      · exact .inl h
      · exact .inr h
    · rintro (h | h)
      · exact .inr (.inl h)
      · by_cases h0 : x.held = 0
        · exact .inr (.inr ⟨h, h0⟩)
        · exact .inl ⟨h, h0⟩
theorem perm_stand {ws : List Wait} {w : Wait} : (standW ws w).Perm (w :: ws) := by
  unfold standW
  split
  · exact List.perm_append_singleton _ _
  · refine List.perm_middle.trans (List.Perm.cons w ?_)
    have := List.filter_append_perm (fun x : Wait => !decide (x.held = 0)) ws
    simpa using this
theorem stand_pv {hs : List Hold} {ws : List Wait} (h : PV r hs ws) {w : Wait} (hw : wS r hs w = true) (hn : ∀ v ∈ ws, v.txn ≠ w.txn) : PV r hs (standW ws w) := by
  refine ⟨h.srt, h.ok, h.fit, fun v hv => ?_, ?_, ?_⟩
  · rcases mem_stand.1 hv with rfl | hv
    · exact hw
    · exact h.wok v hv
  · unfold standW
    split
    · rename_i h0
      rw [List.pairwise_append]
      refine ⟨h.wr, List.pairwise_singleton _ _, fun a _ b hb => ?_⟩
      rw [List.mem_singleton] at hb
      subst hb
      exact wR_iff.2 fun _ => h0
    · rename_i h0
      rw [List.pairwise_append]
      refine ⟨h.wr.filter _, List.pairwise_cons.2 ⟨fun b hb => wR_iff.2 fun e => absurd e h0, h.wr.filter _⟩, fun a ha b hb => ?_⟩
      have ha0 : a.held ≠ 0 := by simpa using (List.mem_filter.1 ha).2
      exact wR_iff.2 fun e => absurd e ha0
  · have hp := (perm_stand (ws := ws) (w := w)).map (·.txn)
    rw [hp.nodup_iff, List.map_cons, List.nodup_cons]
    exact ⟨fun hm => by obtain ⟨v, hv, e⟩ := List.mem_map.1 hm; exact hn v hv e, h.nd⟩
theorem stand_first {hs : List Hold} {ws : List Wait} {w : Wait} (hwr : ws.Pairwise fun a b => wR a b = true) (hf : firstB hs ws = true) (hw : goesL hs w.txn w.mode = false ∨ (w.held = 0 ∧ ws ≠ [])) : firstB hs (standW ws w) = true := by
  by_cases h0 : w.held = 0
  · unfold standW
    rw [if_pos h0]
    cases ws with
    | nil =>
      rcases hw with hw | ⟨_, hw⟩
      · simp [firstB, hw]
      · exact absurd rfl hw
    | cons v vs => exact hf
  · have hgo := hw.resolve_right fun h => h0 h.1
    obtain ⟨A, B, rfl, ha, hb⟩ := conv_split hwr
    rw [stand_split ha hb h0]
    cases A with
    | nil => simp [firstB, hgo]
    | cons v A => exact hf
theorem ask_q {q : Queue} (hr : q.res = r) (hrB : resB r = true) (hpv : PV r q.holders q.waiters) (hf : firstB q.holders q.waiters = true) {t m : Int} (ht : txnB t = true) (hm : modeB r m = true) (hn : ∀ w ∈ q.waiters, w.txn ≠ t) (hne : q.holders = [] → q.waiters = []) : qB (askNew q t m).2 = true ∧ (askNew q t m).2.res = r := by
  have hm2 := modeB_iff.1 hm
  have hof := held_of hpv t
  obtain ⟨s1, s2, s3⟩ := sup_ok hof hm2.2
  unfold askNew
  cases hcv : coversB (heldL q.holders t) m with
  | true =>
    simp only [if_true]
    refine ⟨qB_iff.2 ⟨by rw [hr]; exact hrB, fun e => ?_, by rw [hr]; exact hpv, hf⟩, hr⟩
    have : heldL q.holders t = 0 := by rw [e]; rfl
    rw [this, covers_zero hm2.1] at hcv; cases hcv
  | false =>
    simp only [Bool.false_eq_true, if_false]
    have hwant : modeB r (supM (heldL q.holders t) m) = true := modeB_iff.2 ⟨supM_ne hm2.1 hcv, s1⟩
    cases hg : goesL q.holders t (supM (heldL q.holders t) m) && (!decide (heldL q.holders t = 0) || decide (q.waiters.length = 0)) with
    | true =>
      simp only [if_true]
      rw [Bool.and_eq_true] at hg
      refine ⟨qB_iff.2 ⟨by rw [hr]; exact hrB, ?_, by rw [hr]; exact grant_pv hpv ht hwant hg.1 hn, ?_⟩, hr⟩
      · intro e
        have e : insH q.holders t (supM (heldL q.holders t) m) = [] := e
        have : Hold.mk t (supM (heldL q.holders t) m) ∈ insH q.holders t (supM (heldL q.holders t) m) := mem_insH.2 (.inl rfl)
        rw [e] at this; cases this
      · show firstB (insH q.holders t (supM (heldL q.holders t) m)) q.waiters = true
        cases hws : q.waiters with
        | nil => rfl
        | cons v vs =>
          rw [hws] at hf
          simp only [firstB, Bool.not_eq_true'] at hf ⊢
          cases hgo : goesL (insH q.holders t (supM (heldL q.holders t) m)) v.txn v.mode with
          | false => rfl
          | true => rw [goesL_ins hpv.srt (.inr s2) hgo] at hf; cases hf
    | false =>
      simp only [Bool.false_eq_true, if_false]
      have hw : wS r q.holders (Wait.mk t (supM (heldL q.holders t) m) (heldL q.holders t)) = true := by
        have hno : coversB (heldL q.holders t) (supM (heldL q.holders t) m) = false := by
          cases hx : coversB (heldL q.holders t) (supM (heldL q.holders t) m) with
          | false => rfl
          | true => rw [covers_trans hx s3] at hcv; cases hcv
        exact wS_iff.2 ⟨ht, hwant, rfl, hno, s2⟩
      have hfirst : goesL q.holders t (supM (heldL q.holders t) m) = false ∨ (heldL q.holders t = 0 ∧ q.waiters ≠ []) := by
        rw [Bool.and_eq_false_iff, Bool.or_eq_false_iff] at hg
        rcases hg with hg | ⟨g1, g2⟩
        · exact .inl hg
        · right
          refine ⟨by simpa using g1, fun e => ?_⟩
          rw [e] at g2; simp at g2
      refine ⟨qB_iff.2 ⟨by rw [hr]; exact hrB, fun e => ?_, by rw [hr]; exact stand_pv hpv hw hn, stand_first hpv.wr hf hfirst⟩, hr⟩
      have e : q.holders = [] := e
      rcases hfirst with h | ⟨_, h⟩
      · rw [e] at h; cases h
      · exact h (hne e)
theorem ask_wT {q : Queue} {t m : Int} : ((askNew q t m).2.waiters.map (·.txn)).Perm (q.waiters.map (·.txn)) ∨ ((askNew q t m).2.waiters.map (·.txn)).Perm (t :: q.waiters.map (·.txn)) := by
  unfold askNew
  split
  · exact .inl (List.Perm.refl _)
  · split
    · exact .inl (List.Perm.refl _)
    · exact .inr (perm_stand.map (·.txn))
theorem ask_lock (hl : lockB qs = true) (hc : Cut (cQ r) qs A y B) {t m : Int} (ht : txnB t = true) (hr : resB r = true) (hm : modeB r m = true) (ho : occQ t 0 qs = none) (hy : y.isSome = true ∨ qs.length < 500) : lockB (A ++ (askNew (theQ y r) t m).2 :: B) = true := by
  have hlen := lock_len hl
  have hno := occQ_none ho
  have hpv := theQ_pv hl hc
  have hres := theQ_res hc
  have heq : wT qs = wT A ++ ((theQ y r).waiters ++ wT B) := by
    rw [hc.eq]
    cases y with
    | none => simp [wT, theQ]
    | some q => simp [wT, theQ]
  have hqn : ∀ w ∈ (theQ y r).waiters, w.txn ≠ t := fun w hw => hno w (by rw [heq]; simp [hw])
  have hne : (theQ y r).holders = [] → (theQ y r).waiters = [] := fun e => by
    cases y with
    | none => rfl
    | some q => exact absurd e (qB_iff.1 (lock_q hl q (by rw [hc.eq]; simp))).2.1
  have hq := ask_q hres hr hpv.1 hpv.2 ht hm hqn hne
  have hsrt := lock_srt hl
  rw [hc.eq, List.pairwise_append] at hsrt
  obtain ⟨p1, p2, p3⟩ := hsrt
  rw [List.pairwise_append] at p2
  refine lockB_of ?_ (fun q hqm => ?_) ?_ ?_
  · have h1 := cut_len hc
    simp only [List.length_append, List.length_cons]
    cases y with
    | none =>
      simp only [Option.toList_none, List.length_nil] at h1
      rcases hy with hy | hy
      · cases hy
      · omega
    | some q =>
      simp only [Option.toList_some, List.length_singleton] at h1
      omega
  · rcases List.mem_append.1 hqm with h | h
    · exact lock_q hl q (by rw [hc.eq]; simp [h])
    · rcases List.mem_cons.1 h with rfl | h
      · exact hq.1
      · exact lock_q hl q (by rw [hc.eq]; simp [h])
  · rw [List.pairwise_append]
    refine ⟨p1, List.pairwise_cons.2 ⟨fun b hb => ?_, p2.2.1⟩, fun a ha b hb => ?_⟩
    · show ltR (askNew (theQ y r) t m).2.res b.res = true
      rw [hq.2]
      exact cR_pos (hc.hi b hb)
    · rcases List.mem_cons.1 hb with rfl | hb
      · show ltR a.res (askNew (theQ y r) t m).2.res = true
        rw [hq.2]
        exact cR_lt (hc.lo a ha)
      · exact p3 a ha b (List.mem_append_right _ hb)
  · have hnd := lock_nod hl
    have e2 : wT (A ++ (askNew (theQ y r) t m).2 :: B) = wT A ++ ((askNew (theQ y r) t m).2.waiters ++ wT B) := by simp [wT]
    rw [heq] at hnd hno
    rw [e2]
    simp only [List.map_append] at hnd ⊢
    rcases ask_wT (q := theQ y r) (t := t) (m := m) with hp | hp
    · exact ((hp.append_right ((wT B).map (·.txn))).append_left ((wT A).map (·.txn))).nodup_iff.2 hnd
    · refine (((hp.append_right ((wT B).map (·.txn))).append_left ((wT A).map (·.txn))).trans List.perm_middle).nodup_iff.2 (List.nodup_cons.2 ⟨fun hm => ?_, hnd⟩)
      have hm : t ∈ (wT A ++ ((theQ y r).waiters ++ wT B)).map (·.txn) := by
        rw [List.map_append, List.map_append]; exact hm
      obtain ⟨w, hw, e⟩ := List.mem_map.1 hm
      exact hno w hw e
end
end Go.Proofs.YtndehfninoimgaaGreat

/- Layer 8 (locks): the law LocksTells. -/
namespace Go.Proofs.YtndehfninoimgaaGreat
open Go.Bur
set_option linter.unusedSimpArgs false
set_option linter.unusedVariables false
set_option maxRecDepth 100000

/-! ### Few -/
/-! ### The layer does something -/
def rW : Res := Res.mk 0 true 7
def lW3 : Locks := Locks.mk [Queue.mk rW [Hold.mk 1 3, Hold.mk 2 3] [Wait.mk 1 5 3]]
def lW1 : Locks := Locks.mk [Queue.mk rW [Hold.mk 1 3] []]
def lW2 : Locks := Locks.mk [Queue.mk rW [Hold.mk 1 3, Hold.mk 2 3] []]
theorem small0 : SmallL (Locks.mk []).queues := fun q hq => by cases hq
theorem small1 {q : Queue} (h : q.holders.length ≤ 1000 ∧ q.waiters.length ≤ 1000) : SmallL (Locks.mk [q]).queues := fun p hp => by
  rw [List.mem_singleton.1 hp]; exact h
theorem wakesL (n : Nat) (hn : 3003 ≤ n) : law08_wakes n = some true := by
  obtain ⟨m, rfl⟩ : ∃ m, n = m + 3003 := ⟨n - 3003, by omega⟩
  have h1 : locks_Ask (m + 3003) (Locks.mk []) 1 rW 3 = some (lW1, 2, 0) := ask_step (r' := rW) (m' := 3) (t' := 1) (by omega) small0 (by decide) (by kernel_rfl) (by kernel_rfl) (by kernel_rfl)
  have h2 : locks_Ask (m + 3003) lW1 2 rW 3 = some (lW2, 2, 0) := ask_step (r' := rW) (m' := 3) (t' := 2) (by omega) (small1 ⟨by decide, by decide⟩) (by decide) (by kernel_rfl) (by kernel_rfl) (by kernel_rfl)
  have h3 : locks_Ask (m + 3003) lW2 1 rW 6 = some (lW3, 3, 0) := ask_step (r' := rW) (m' := 6) (t' := 1) (by omega) (small1 ⟨by decide, by decide⟩) (by decide) (by kernel_rfl) (by kernel_rfl) (by kernel_rfl)
  have hsm : SmallL lW3.queues := small1 ⟨by decide, by decide⟩
  have hl3 : lockB lW3.queues = true := by kernel_rfl
  have h4 : locks_Blockers (m + 3003) lW3 1 = some [2] := by
    rw [blockers_eq _ (by omega) lW3 hsm (by decide)]
    congr 1
    have hb : blkL lW3.queues 1 = cpZ (sortZ [2]) := by
      unfold blkL
      have ho : occQ 1 0 lW3.queues = some (0, Queue.mk rW [Hold.mk 1 3, Hold.mk 2 3] [Wait.mk 1 5 3], 0, Wait.mk 1 5 3) := by kernel_rfl
      rw [ho, hl3]
      rfl
    rw [hb]
    exact up_ext (cp_sort _).1 (by simp) fun x => (cp_sort [2]).2 x
  have h5 : locks_Release (m + 3003) lW3 2 = some (Locks.mk [Queue.mk rW [Hold.mk 1 5] []], [1], 0) := release_step (t' := 2) (by omega) hsm (by decide) hl3 (by kernel_rfl) (by kernel_rfl)
  unfold law08_wakes
  show (locks_Ask (m + 3003) (Locks.mk []) 1 rW 3).bind _ = _
  rw [h1, Option.bind_some]
  show (locks_Ask (m + 3003) lW1 2 rW 3).bind _ = _
  rw [h2, Option.bind_some]
  show (locks_Ask (m + 3003) lW2 1 rW 6).bind _ = _
  rw [h3, Option.bind_some]
  show (locks_Blockers (m + 3003) lW3 1).bind _ = _
  rw [h4, Option.bind_some]
  show (locks_Release (m + 3003) lW3 2).bind _ = _
  rw [h5, Option.bind_some]
  clear h1 h2 h3 h4 h5
  kernel_rfl

/-! ### The law -/
def waitB (qs : List Queue) (t : Int) : Res × Int × Bool := match occQ t 0 qs with
  | some (_, q, _, w) => (q.res, w.mode, true)
  | none => (Res.mk 0 false 0, 0, false)
theorem waitsD_eq (n : Nat) (hn : 1003 ≤ n) (o : Locks) (hs : SmallL o.queues) (hq : o.queues.length ≤ 1000) (t : Int) : locks_Waits n o t = some (if lockB o.queues then waitB o.queues t else (Res.mk 0 false 0, 0, false)) := by
  rw [waitsC_eq n hn o hs hq t]
  unfold waitB
  cases occQ t 0 o.queues with
  | none => cases lockB o.queues <;> rfl
  | some x => cases lockB o.queues <;> rfl
section
variable (n : Nat) (hn : 1000003 ≤ n) (ls : List Locks) (ts : List Int) (xs : List Res) (hx : xs.length < n) (l : Locks) (hs : SmallM l.queues) (hq : l.queues.length ≤ 1000) (L i : Int)
include hn hx hs hq
end
end Go.Proofs.YtndehfninoimgaaGreat

/- Layer 8 (locks): the law LocksServes. -/
namespace Go.Proofs.YtndehfninoimgaaGreat
open Go.Bur
set_option linter.unusedSimpArgs false
set_option linter.unusedVariables false
set_option maxRecDepth 100000

theorem held_pump {x : Int} : ∀ {ws : List Wait} {hs : List Hold}, SrtH hs → (∀ w ∈ ws, w.txn ≠ x) → heldL (pumpL hs ws).1 x = heldL hs x
  | [], hs, _, _ => rfl
  | w :: ws, hs, h, hn => by
    unfold pumpL
    split
    · have h1 := held_pump (x := x) (ws := ws) (srt_insH (t := w.txn) (m := w.mode) h) fun v hv => hn v (List.mem_cons_of_mem _ hv)
      show heldL (pumpL (insH hs w.txn w.mode) ws).1 x = _
      rw [h1]
      exact held_ins h (fun e => hn w (List.mem_cons_self ..) e.symm)
    · rfl
theorem blk_some {q : Queue} (hq : qB q = true) {b : Nat} {w : Wait} (hb : q.waiters[b]? = some w) : blk q b w w.txn ≠ [] := by
  obtain ⟨_, _, _, hf⟩ := qB_iff.1 hq
  unfold blk
  intro e
  obtain ⟨e1, e2⟩ := List.append_eq_nil_iff.1 e
  have hlt := (List.getElem?_eq_some_iff.1 hb).1
  cases b with
  | zero =>
    cases hws : q.waiters with
    | nil => rw [hws] at hb; cases hb
    | cons v t =>
      rw [hws] at hb hf
      simp at hb
      subst hb
      simp only [firstB, Bool.not_eq_true'] at hf
      have : goesL q.holders v.txn v.mode = true := goesL_iff.2 fun x hx => by
        by_cases hxt : x.txn = v.txn
        · exact .inl hxt
        · right
          have h1 := List.map_eq_nil_iff.1 e1
          have h2 := List.filter_eq_nil_iff.1 h1 x hx
          simp [hxt] at h2
          exact h2
      rw [hf] at this; cases this
  | succ b =>
    have h1 := List.map_eq_nil_iff.1 e2
    have h2 : (q.waiters.take (b + 1)).length = 0 := by rw [h1]; rfl
    rw [List.length_take] at h2
    omega
theorem mem_wT {qs : List Queue} {w : Wait} : w ∈ wT qs ↔ ∃ q ∈ qs, w ∈ q.waiters := by unfold wT; exact List.mem_flatMap
theorem modeD_at {t : Int} {x : Res} : ∀ {qs : List Queue}, (qs.Pairwise fun a b => ltQ a b = true) → ∀ q ∈ qs, q.res = x → modeD t x qs = heldL q.holders t
  | [], _, _, h, _ => by cases h
  | p :: r, h, q, hq, he => by
    obtain ⟨h1, h2⟩ := List.pairwise_cons.1 h
    rw [modeD]
    rcases List.mem_cons.1 hq with rfl | hq
    · have : Res.eqb q.res x = true := by rw [he]; simp [Res.eqb]
      rw [this]; rfl
    · cases hpx : Res.eqb p.res x with
      | true =>
        have := h1 q hq
        unfold ltQ at this
        rw [eqb_res hpx, he, ltR_irr] at this; cases this
      | false => exact modeD_at h2 q hq he
/-- How much there is, in each queue. -/
def Sz (qs : List Queue) : Prop := qs.length ≤ 501 ∧ ∀ q ∈ qs, q.holders.length + q.waiters.length ≤ 100
theorem Sz.small {qs : List Queue} (h : Sz qs) : SmallL qs := fun q hq => by have := h.2 q hq; omega
end Go.Proofs.YtndehfninoimgaaGreat

/- Layer 8 (locks): what an op comes to. -/
namespace Go.Proofs.YtndehfninoimgaaGreat
open Go.Bur
set_option linter.unusedSimpArgs false
set_option linter.unusedVariables false
set_option maxRecDepth 100000

theorem with68 (n : Nat) (hn : 1003 ≤ n) (o : Locks) (hs : SmallL o.queues) (hq : o.queues.length ≤ 1000) (t a : Int) (b : List Int) :
    locks_with_f68 n o t a b = if lockB o.queues then (if txnB t then (locks_Leave_1 n o.queues a b).bind fun y => cond (y.1 != 0) (some (Locks.mk [], y.1, y.2.2.1, y.2.2.2)) (some (Locks.mk y.2.1, 0, y.2.2.1, y.2.2.2)) else some (Locks.mk [], 2, a, b)) else some (Locks.mk [], 180, a, b) := by
  unfold locks_with_f68
  rw [check_eq n hn o hs, Option.bind_some]
  cases hl : lockB o.queues with
  | false => rfl
  | true =>
    simp only [if_true, bne_self_eq_false, cond_false, txn_eq, Option.bind_some, cloneQ n _ hq]
    cases ht : txnB t with
    | false => rfl
    | true =>
      simp only [Bool.not_true, cond_false, if_true]
      show locks_with_f68_l1 n n ((o.queues.length : Int), ((0 : Nat) : Int), a, b, Locks.mk [], 0, o.queues, ()) = _
      unfold locks_with_f68_l1
      rw [run_loop o.queues (fun i (_ : Unit) => ((o.queues.length : Int), (i : Int), a, b, Locks.mk [], i, o.queues, ())) (fun _ _ s => .inr s) (fun _ => (locks_Leave_1 n o.queues a b).bind fun y => cond (y.1 != 0) (some (Locks.mk [], y.1, y.2.2.1, y.2.2.2)) (some (Locks.mk y.2.1, 0, y.2.2.1, y.2.2.2))) ?_ ?_ n 0 () (Nat.zero_le _) (by omega)]
      · rw [List.drop_zero, runL_skip]
      · intro r2 i s q hx hi
        have hqq := hs q (List.mem_of_getElem? hx)
        simp only [lt_dec hi, cond_true, idxM_at hx, Option.bind_some, sameI_at, cloneH n _ hqq.1, cloneW n _ hqq.2, set_mk hx, wrap_succ (show i < 4611686018427387904 by omega)]
      · intro r2 s
        simp only [ge_dec (Nat.lt_irrefl _), cond_false, sameN_at, Option.bind_some]
/-- How much there may be, in each queue. -/
def SzK (k : Nat) (qs : List Queue) : Prop := qs.length ≤ 501 ∧ ∀ q ∈ qs, q.holders.length + q.waiters.length ≤ k
theorem SzK.sz {k : Nat} {qs : List Queue} (h : SzK k qs) (hk : k ≤ 100) : Sz qs := ⟨h.1, fun q hq => by have := h.2 q hq; omega⟩
theorem left_szK {k : Nat} {qs : List Queue} (hl : lockB qs = true) (h : SzK k qs) (n : Int) (all : Bool) : SzK k (leftL n all qs) := by
  constructor
  · unfold leftL
    have := List.length_filter_le (fun q : Queue => !decide (q.holders.length = 0)) (qs.map (leftQ n all))
    rw [List.length_map] at this
    have := h.1; omega
  · intro q hq
    obtain ⟨hq, _⟩ := List.mem_filter.1 hq
    obtain ⟨p, hp, rfl⟩ := List.mem_map.1 hq
    have hpv := (qB_iff.1 (lock_q hl p hp)).2.2.1.del n all
    have h1 := (pump_len (ws := p.waiters.filter fun w => !decide (w.txn = n)) hpv.srt).1
    have h2 := List.length_filter_le (fun w : Wait => !decide (w.txn = n)) p.waiters
    have h3 : (if all then p.holders.filter fun x => !decide (x.txn = n) else p.holders).length ≤ p.holders.length := by
      cases all with
      | true => exact List.length_filter_le _ _
      | false => exact Nat.le_refl _
    have := h.2 p hp
    show (pullQ n all p).1.length + (pullQ n all p).2.1.length ≤ k
    unfold pullQ; omega
theorem ask_szQ {q : Queue} {t m : Int} (h : SrtH q.holders) : (askNew q t m).2.holders.length + (askNew q t m).2.waiters.length ≤ q.holders.length + q.waiters.length + 1 := by
  unfold askNew
  split
  · show q.holders.length + q.waiters.length ≤ _
    omega
  · split
    · have := insH_len (t := t) (m := supM (heldL q.holders t) m) h
      show (insH q.holders t (supM (heldL q.holders t) m)).length + q.waiters.length ≤ _
      omega
    · show q.holders.length + (standW q.waiters _).length ≤ _
      rw [perm_stand.length_eq, List.length_cons]; omega
theorem ask_szK {k : Nat} {qs A B : List Queue} {y : Option Queue} {r : Res} (hl : lockB qs = true) (hc : Cut (cQ r) qs A y B) {t m : Int} (h : SzK k qs) (hL : lockB (A ++ (askNew (theQ y r) t m).2 :: B) = true) : SzK (k + 1) (A ++ (askNew (theQ y r) t m).2 :: B) := by
  refine ⟨by have := lock_len hL; omega, fun q hq => ?_⟩
  rcases List.mem_append.1 hq with hq | hq
  · have := h.2 q (by rw [hc.eq]; simp [hq]); omega
  · rcases List.mem_cons.1 hq with rfl | hq
    · have h1 := ask_szQ (t := t) (m := m) (theQ_pv hl hc).1.srt
      have h2 : (theQ y r).holders.length + (theQ y r).waiters.length ≤ k := by
        cases y with
        | none => simp [theQ]
        | some p => exact h.2 p (by rw [hc.eq]; simp)
      omega
    · have := h.2 q (by rw [hc.eq]; simp [hq]); omega

/-! ### What an op comes to -/
def zOp (o : law08_Op) : Int := (IntKind.wrap .u64 o.kind).tmod 7
theorem zOp_eq (o : law08_Op) : remP (IntKind.wrap .u64 o.kind) 7 = some (zOp o) := by
  unfold remP zOp
  rfl
/-- An op that comes to something. -/
structure Done (o : law08_Op) (qs : List Queue) (td : law08_told) : Prop where
  lock : lockB qs = true
  txn : txnB o.txn = true
  way : (zOp o = 5 ∧ td.l = Locks.mk (leftL o.txn true qs) ∧ td.granted = grantL o.txn true qs) ∨
    (zOp o = 6 ∧ td.l = Locks.mk (leftL o.txn false qs) ∧ td.granted = grantL o.txn false qs) ∨
    (zOp o ≠ 5 ∧ zOp o ≠ 6 ∧ td.granted = [] ∧ resB o.res = true ∧ modeB o.res o.mode = true ∧ occQ o.txn 0 qs = none ∧ ∃ A y B, Cut (cQ o.res) qs A y B ∧ (y.isSome = true ∨ qs.length < 500) ∧
      td.l = Locks.mk (A ++ (askNew (theQ y o.res) o.txn o.mode).2 :: B) ∧ td.what = (askNew (theQ y o.res) o.txn o.mode).1)
theorem run_eq (n : Nat) (hn : 1003 ≤ n) (o : law08_Op) {qs : List Queue} (hz : SzK 100 qs) : ∃ td, law08_Op_run n o (Locks.mk qs) = some td ∧ (td.e ≠ 0 ∨ (td.e = 0 ∧ Done o qs td)) := by
  have hs := (hz.sz (Nat.le_refl _)).small
  have hq : (Locks.mk qs).queues.length ≤ 1000 := by have := hz.1; show qs.length ≤ 1000; omega
  have hwo : ∀ (hl : lockB qs = true) all, locks_without n o.txn all qs = some (leftL o.txn all qs, grantL o.txn all qs) := fun hl all => without_eq n hn o.txn all qs hq fun q hqm => ⟨(qB_iff.1 (lock_q hl q hqm)).2.2.1.srt, by have := hz.2 q hqm; omega, by have := hz.2 q hqm; omega⟩
  unfold law08_Op_run
  rw [zOp_eq, Option.bind_some]
  simp only [jn, ibeq, law08_Op_run_j1, law08_Op_run_j2]
  by_cases h5 : zOp o = 5
  · rw [decide_eq_true h5]
    simp only [cond_true, locks_Release, with66 n hn (Locks.mk qs) hs hq]
    cases hl : lockB qs with
    | false => exact ⟨_, rfl, .inl (show (180 : Int) ≠ 0 by decide)⟩
    | true =>
      cases ht : txnB o.txn with
      | false => exact ⟨_, rfl, .inl (show (2 : Int) ≠ 0 by decide)⟩
      | true =>
        simp only [if_true, locks_Release_1, hwo hl, Option.bind_some]
        exact ⟨_, rfl, .inr ⟨rfl, hl, ht, .inl ⟨h5, rfl, rfl⟩⟩⟩
  · rw [decide_eq_false h5]
    by_cases h6 : zOp o = 6
    · rw [decide_eq_true h6]
      simp only [cond_false, cond_true, locks_Leave, with68 n hn (Locks.mk qs) hs hq]
      cases hl : lockB qs with
      | false => exact ⟨_, rfl, .inl (show (180 : Int) ≠ 0 by decide)⟩
      | true =>
        cases ht : txnB o.txn with
        | false => exact ⟨_, rfl, .inl (show (2 : Int) ≠ 0 by decide)⟩
        | true =>
          simp only [if_true, locks_Leave_1, waits_eq n hn (Locks.mk qs) hs hq, Option.bind_some]
          cases ho : occQ o.txn 0 qs with
          | none => exact ⟨_, rfl, .inl (show (4 : Int) ≠ 0 by decide)⟩
          | some z =>
            simp only [Bool.not_true, cond_false, hwo hl, Option.bind_some]
            exact ⟨_, rfl, .inr ⟨rfl, hl, ht, .inr (.inl ⟨h6, rfl, rfl⟩)⟩⟩
    · rw [decide_eq_false h6]
      simp only [cond_false, locks_Ask, with56 n hn (Locks.mk qs) hs hq]
      cases hl : lockB qs with
      | false => exact ⟨_, rfl, .inl (show (180 : Int) ≠ 0 by decide)⟩
      | true =>
        cases ht : txnB o.txn with
        | false => exact ⟨_, rfl, .inl (show (2 : Int) ≠ 0 by decide)⟩
        | true =>
          obtain ⟨A, y, B, hc⟩ := cutQ' o.res (lock_srt hl)
          simp only [if_true, ask1_eq n hn hl (fun q hqm => by have := hz.2 q hqm; omega) hc o.mode o.txn 0, Option.bind_some]
          cases hrm : resB o.res && modeB o.res o.mode with
          | false => exact ⟨_, rfl, .inl (show (2 : Int) ≠ 0 by decide)⟩
          | true =>
            simp only [if_true]
            cases ho : (occQ o.txn 0 qs).isSome with
            | true => exact ⟨_, rfl, .inl (show (181 : Int) ≠ 0 by decide)⟩
            | false =>
              cases hf : !y.isSome && decide (500 ≤ qs.length) with
              | true => exact ⟨_, rfl, .inl (show (6 : Int) ≠ 0 by decide)⟩
              | false =>
                rw [Bool.and_eq_true] at hrm
                refine ⟨_, rfl, .inr ⟨rfl, hl, ht, .inr (.inr ⟨h5, h6, rfl, hrm.1, hrm.2, by simpa using ho, A, y, B, hc, ?_, rfl, rfl⟩)⟩⟩
                rw [Bool.and_eq_false_iff] at hf
                rcases hf with hf | hf
                · exact .inl (by simpa using hf)
                · exact .inr (by simpa using hf)
theorem Done.ok {o : law08_Op} {qs : List Queue} {td : law08_told} (h : Done o qs td) : lockB td.l.queues = true := by
  rcases h.way with ⟨_, e, _⟩ | ⟨_, e, _⟩ | ⟨_, _, _, hr, hm, ho, A, y, B, hc, hy, e, _⟩
  · rw [e]; exact left_ok h.lock _ _
  · rw [e]; exact left_ok h.lock _ _
  · rw [e]; exact ask_lock h.lock hc h.txn hr hm ho hy
theorem Done.sz {k : Nat} {o : law08_Op} {qs : List Queue} {td : law08_told} (h : Done o qs td) (hz : SzK k qs) : SzK (k + 1) td.l.queues := by
  have up : ∀ {ps : List Queue}, SzK k ps → SzK (k + 1) ps := fun h => ⟨h.1, fun q hq => by have := h.2 q hq; omega⟩
  have hok := h.ok
  rcases h.way with ⟨_, e, _⟩ | ⟨_, e, _⟩ | ⟨_, _, _, hr, hm, ho, A, y, B, hc, hy, e, _⟩
  · rw [e]; exact up (left_szK h.lock hz _ _)
  · rw [e]; exact up (left_szK h.lock hz _ _)
  · rw [e] at hok ⊢; exact ask_szK h.lock hc hz hok
end Go.Proofs.YtndehfninoimgaaGreat

/- Layer 8 (locks): the law LocksAlone. -/
namespace Go.Proofs.YtndehfninoimgaaGreat
open Go.Bur
set_option linter.unusedSimpArgs false
set_option linter.unusedVariables false
set_option maxRecDepth 100000

theorem eqb_ne {a b : Res} (h : a ≠ b) : Res.eqb a b = false := by
  cases he : Res.eqb a b with
  | false => rfl
  | true => exact absurd (eqb_res he) h
theorem wait_none {qs : List Queue} {t : Int} (h : ∀ w ∈ wT qs, w.txn ≠ t) : waitB qs t = (Res.mk 0 false 0, 0, false) := by
  unfold waitB
  cases ho : occQ t 0 qs with
  | none => rfl
  | some z =>
    obtain ⟨i', q', b', w'⟩ := z
    obtain ⟨⟨j', _, hj'⟩, hb', hw'⟩ := occQ_some ho
    exact absurd hw' (h w' (mem_wT.2 ⟨q', List.mem_of_getElem? hj', List.mem_of_getElem? hb'⟩))
theorem wait_at {qs : List Queue} (hl : lockB qs = true) {q : Queue} (hq : q ∈ qs) {w : Wait} (hw : w ∈ q.waiters) : waitB qs w.txn = (q.res, w.mode, true) := by
  obtain ⟨b, hb⟩ := List.mem_iff_getElem?.1 hw
  obtain ⟨i, e⟩ := occ_uniq (k := 0) (lock_nod hl) q hq b w hb rfl
  unfold waitB
  rw [e]
end Go.Proofs.YtndehfninoimgaaGreat

/- Layer 8 (locks): the law LocksSafe. -/
namespace Go.Proofs.YtndehfninoimgaaGreat
open Go.Bur
set_option linter.unusedSimpArgs false
set_option linter.unusedVariables false
set_option maxRecDepth 100000

/-! ### What is held afterwards -/
theorem pump_covers {r : Res} {x : Int} : ∀ {ws : List Wait} {hs : List Hold}, PV r hs ws → coversB (heldL (pumpL hs ws).1 x) (heldL hs x) = true
  | [], hs, h => covers_self (ofM_is (held_of h x))
  | w :: ws, hs, h => by
    unfold pumpL
    cases hg : goesL hs w.txn w.mode with
    | false => exact covers_self (ofM_is (held_of h x))
    | true =>
      have ih := pump_covers (x := x) (h.grant hg)
      simp only [if_true]
      refine covers_trans ih ?_
      by_cases hx : x = w.txn
      · subst hx
        rw [held_ins_self h.srt]
        obtain ⟨_, _, c, _, e⟩ := wS_iff.1 (h.wok w (List.mem_cons_self ..))
        rw [← c]; exact e
      · rw [held_ins h.srt hx]
        exact covers_self (ofM_is (held_of h x))
theorem pump_granted {r : Res} {g : Int} : ∀ {ws : List Wait} {hs : List Hold}, PV r hs ws → g ∈ (pumpL hs ws).2.2 → ∃ w ∈ ws, w.txn = g ∧ (∀ v ∈ (pumpL hs ws).2.1, v.txn ≠ g) ∧ heldL (pumpL hs ws).1 g = w.mode
  | [], hs, _, hg => by simp [pumpL] at hg
  | w :: ws, hs, h, hg => by
    have hnd : w.txn ∉ ws.map (·.txn) ∧ (ws.map (·.txn)).Nodup := List.nodup_cons.1 h.nd
    unfold pumpL at hg ⊢
    cases hgo : goesL hs w.txn w.mode with
    | false => rw [hgo] at hg; simp at hg
    | true =>
      rw [hgo] at hg
      simp only [if_true] at hg ⊢
      rcases List.mem_cons.1 hg with rfl | hg
      · have hne : ∀ u ∈ ws, u.txn ≠ w.txn := fun u hu e => hnd.1 (by rw [← e]; exact List.mem_map.2 ⟨u, hu, rfl⟩)
        refine ⟨w, List.mem_cons_self .., rfl, fun u hu => hne u (pump_sub.subset hu), ?_⟩
        rw [held_pump (srt_insH h.srt) hne, held_ins_self h.srt]
      · obtain ⟨v, hv, h1, h2, h3⟩ := pump_granted (h.grant hgo) hg
        exact ⟨v, List.mem_cons_of_mem _ hv, h1, h2, h3⟩
theorem res_uniq : ∀ {qs : List Queue}, (qs.Pairwise fun a b => ltQ a b = true) → ∀ p ∈ qs, ∀ q ∈ qs, p.res = q.res → p = q
  | [], _, _, h, _, _, _ => by cases h
  | a :: r, h, p, hp0, q, hq, e => by
    obtain ⟨h1, h2⟩ := List.pairwise_cons.1 h
    rcases List.mem_cons.1 hp0 with hpa | hp
    · rcases List.mem_cons.1 hq with hqa | hq'
      · rw [hpa, hqa]
      · have : ltR a.res q.res = true := h1 q hq'
        rw [← hpa, e, ltR_irr] at this; cases this
    · rcases List.mem_cons.1 hq with hqa | hq'
      · have : ltR a.res p.res = true := h1 p hp
        rw [e, hqa, ltR_irr] at this; cases this
      · exact res_uniq h2 p hp q hq' e
theorem modeD_none {t : Int} {x : Res} : ∀ {qs : List Queue}, (∀ q ∈ qs, q.res ≠ x) → modeD t x qs = 0
  | [], _ => rfl
  | q :: r, h => by
    rw [modeD, eqb_ne (h q (List.mem_cons_self ..))]
    exact modeD_none fun p hp => h p (List.mem_cons_of_mem _ hp)
theorem modeD_left {qs : List Queue} (hl : lockB qs = true) {q : Queue} (hq : q ∈ qs) (t : Int) (all : Bool) (x : Int) : modeD x q.res (leftL t all qs) = heldL (leftQ t all q).holders x := by
  by_cases hne : (leftQ t all q).holders.length = 0
  · rw [List.eq_nil_of_length_eq_zero hne]
    refine modeD_none fun p hp e => ?_
    obtain ⟨hp, hpn⟩ := List.mem_filter.1 hp
    obtain ⟨p', hp', rfl⟩ := List.mem_map.1 hp
    have := res_uniq (lock_srt hl) p' hp' q hq e
    subst this
    rw [hne] at hpn; simp at hpn
  · exact modeD_at (lock_srt (left_ok hl t all)) (leftQ t all q) (List.mem_filter.2 ⟨List.mem_map.2 ⟨q, hq, rfl⟩, by simpa using hne⟩) rfl
theorem held_after {qs : List Queue} {o : law08_Op} {td : law08_told} (hd : Done o qs td) {q : Queue} (hq : q ∈ qs) {h : Hold} (hh : h ∈ q.holders) :
    (zOp o = 5 ∧ h.txn = o.txn → modeD h.txn q.res td.l.queues = 0) ∧ (¬ (zOp o = 5 ∧ h.txn = o.txn) → coversB (modeD h.txn q.res td.l.queues) h.mode = true) := by
  have hl := hd.lock
  obtain ⟨q1, q2, hpv, q4⟩ := qB_iff.1 (lock_q hl q hq)
  have hm := held_mem hpv.srt hh
  have hism : isM h.mode = true := ofM_is (modeB_iff.1 (hpv.ok h hh).2).2
  rcases hd.way with ⟨hz, e, _⟩ | ⟨hz, e, _⟩ | ⟨h5, h6, _, hr, hmm, ho, A, y, B, hc, hy, e, _⟩
  · rw [e]
    show (_ → modeD h.txn q.res (leftL o.txn true qs) = 0) ∧ (_ → coversB (modeD h.txn q.res (leftL o.txn true qs)) h.mode = true)
    rw [modeD_left hl hq]
    have hdel := hpv.del o.txn true
    simp only [if_true] at hdel
    constructor
    · rintro ⟨_, ht⟩
      rw [ht]
      show heldL (pumpL (q.holders.filter fun x => !decide (x.txn = o.txn)) (q.waiters.filter fun w => !decide (w.txn = o.txn))).1 o.txn = 0
      rw [held_pump hdel.srt fun w hw => by simpa using (List.mem_filter.1 hw).2]
      exact held_none fun x hx => by simpa using (List.mem_filter.1 hx).2
    · intro hn
      have ht : h.txn ≠ o.txn := fun e => hn ⟨hz, e⟩
      have := pump_covers (x := h.txn) hdel
      rw [held_del hpv.srt ht, hm] at this
      exact this
  · rw [e]
    show (_ → modeD h.txn q.res (leftL o.txn false qs) = 0) ∧ (_ → coversB (modeD h.txn q.res (leftL o.txn false qs)) h.mode = true)
    rw [modeD_left hl hq]
    constructor
    · rintro ⟨h5, _⟩; omega
    · intro _
      have hdel := hpv.del o.txn false
      simp only [Bool.false_eq_true, if_false] at hdel
      have := pump_covers (x := h.txn) hdel
      rw [hm] at this
      exact this
  · have hok := hd.ok
    rw [e] at hok ⊢
    show (_ → modeD h.txn q.res (A ++ (askNew (theQ y o.res) o.txn o.mode).2 :: B) = 0) ∧ (_ → coversB (modeD h.txn q.res (A ++ (askNew (theQ y o.res) o.txn o.mode).2 :: B)) h.mode = true)
    refine ⟨fun ⟨k, _⟩ => absurd k h5, fun _ => ?_⟩
    have hqm : q ∈ A ++ (y.toList ++ B) := by rw [← hc.eq]; exact hq
    have same : q ∈ A ∨ q ∈ B → coversB (modeD h.txn q.res (A ++ (askNew (theQ y o.res) o.txn o.mode).2 :: B)) h.mode = true := fun hx => by
      rw [modeD_at (lock_srt hok) q (by rcases hx with hx | hx <;> simp [hx]) rfl, hm]
      exact covers_self hism
    rcases List.mem_append.1 hqm with hx | hx
    · exact same (.inl hx)
    · rcases List.mem_append.1 hx with hx | hx
      · cases y with
        | none => simp at hx
        | some q0 =>
          have : q = q0 := by simpa using hx
          subst this
          have hres : q.res = o.res := theQ_res hc
          have hq1r : (askNew q o.txn o.mode).2.res = q.res := by
            unfold askNew
            split
            · rfl
            · split <;> rfl
          have e1 : modeD h.txn q.res (A ++ (askNew (theQ (some q) o.res) o.txn o.mode).2 :: B) = heldL (askNew q o.txn o.mode).2.holders h.txn := modeD_at (lock_srt hok) _ (by simp [theQ]) hq1r
          rw [e1]
          have hof : ofM o.res (heldL q.holders o.txn) = true := by rw [← hres]; exact held_of hpv o.txn
          obtain ⟨s1, s2, s3⟩ := sup_ok hof (modeB_iff.1 hmm).2
          unfold askNew
          split
          · show coversB (heldL q.holders h.txn) h.mode = true
            rw [hm]; exact covers_self hism
          · split
            · show coversB (heldL (insH q.holders o.txn (supM (heldL q.holders o.txn) o.mode)) h.txn) h.mode = true
              by_cases ht : h.txn = o.txn
              · rw [ht, held_ins_self hpv.srt]
                rw [← ht, hm] at s2 ⊢
                exact s2
              · rw [held_ins hpv.srt ht, hm]; exact covers_self hism
            · show coversB (heldL q.holders h.txn) h.mode = true
              rw [hm]; exact covers_self hism
      · exact same (.inr hx)
theorem granted_after {qs : List Queue} {o : law08_Op} {td : law08_told} (hd : Done o qs td) {g : Int} (hg : g ∈ td.granted) : ∃ r m, waitB qs g = (r, m, true) ∧ waitB td.l.queues g = (Res.mk 0 false 0, 0, false) ∧ modeD g r td.l.queues = m := by
  have hl := hd.lock
  have gen : ∀ all, g ∈ grantL o.txn all qs → ∃ r m, waitB qs g = (r, m, true) ∧ waitB (leftL o.txn all qs) g = (Res.mk 0 false 0, 0, false) ∧ modeD g r (leftL o.txn all qs) = m := fun all hg => by
    obtain ⟨q, hq, hg⟩ := List.mem_flatMap.1 hg
    have hpv := (qB_iff.1 (lock_q hl q hq)).2.2.1.del o.txn all
    obtain ⟨w, hw, rfl, h2, h3⟩ := pump_granted hpv hg
    have hwq := (List.mem_filter.1 hw).1
    refine ⟨q.res, w.mode, wait_at hl hq hwq, wait_none fun v hv e => ?_, ?_⟩
    · obtain ⟨p', hp', hv⟩ := mem_wT.1 hv
      obtain ⟨hp', _⟩ := List.mem_filter.1 hp'
      obtain ⟨p, hp, rfl⟩ := List.mem_map.1 hp'
      have hvp := (left_sub o.txn all p).subset hv
      obtain ⟨bv, hbv⟩ := List.mem_iff_getElem?.1 hvp
      obtain ⟨bw, hbw⟩ := List.mem_iff_getElem?.1 hwq
      obtain ⟨i1, o1⟩ := occ_uniq (k := 0) (lock_nod hl) p hp bv v hbv e
      obtain ⟨i2, o2⟩ := occ_uniq (k := 0) (lock_nod hl) q hq bw w hbw rfl
      rw [o1] at o2
      simp only [Option.some.injEq, Prod.mk.injEq] at o2
      obtain ⟨_, rfl, _, rfl⟩ := o2
      exact h2 v hv e
    · rw [modeD_left hl hq]
      exact h3
  rcases hd.way with ⟨_, e, k⟩ | ⟨_, e, k⟩ | ⟨_, _, k, _⟩
  · rw [e]; exact gen true (k ▸ hg)
  · rw [e]; exact gen false (k ▸ hg)
  · rw [k] at hg; cases hg

/-! ### The law's walks -/
theorem blkL_ne {qs : List Queue} (hl : lockB qs = true) {q : Queue} (hq : q ∈ qs) {w : Wait} (hw : w ∈ q.waiters) : blkL qs w.txn ≠ [] := fun e => by
  obtain ⟨b, hb⟩ := List.mem_iff_getElem?.1 hw
  obtain ⟨i, ho⟩ := occ_uniq (k := 0) (lock_nod hl) q hq b w hb rfl
  unfold blkL at e
  rw [ho] at e
  simp only [hl, if_true] at e
  exact blk_some (lock_q hl q hq) hb (List.eq_nil_iff_forall_not_mem.2 fun y hy => by
    have := ((cp_sort _).2 y).2 hy
    rw [e] at this; cases this)
theorem safe_eq (n : Nat) (hn : 3003 ≤ n) {qs : List Queue} (hl : lockB qs = true) (hz : Sz qs) : law08_safe n (Locks.mk qs) = some true := by
  have hq : qs.length ≤ 1000 := by have := hz.1; omega
  unfold law08_safe
  show law08_safe_l1 n n (qs, (qs.length : Int), ((0 : Nat) : Int), Locks.mk qs, ()) = _
  unfold law08_safe_l1
  rw [run_loop qs (fun i (_ : Unit) => (qs, (qs.length : Int), (i : Int), Locks.mk qs, ())) (fun _ _ s => .inr s) (fun _ => some true) ?_ ?_ n 0 () (Nat.zero_le _) (by omega)]
  · rw [List.drop_zero, runL_skip]
  · intro r i s q hx hi
    have hqm := List.mem_of_getElem? hx
    have hqs := hz.2 q hqm
    obtain ⟨_, _, hpv, _⟩ := qB_iff.1 (lock_q hl q hqm)
    simp only [lt_dec hi, cond_true, idx_nat, hx, Option.bind_some]
    show law08_safe_l2 n r n (qs, (qs.length : Int), (i : Int), q.holders, (q.holders.length : Int), ((0 : Nat) : Int), Locks.mk qs, q, ()) = _
    unfold law08_safe_l2
    rw [run_loop q.holders (fun k (_ : Unit) => (qs, (qs.length : Int), (i : Int), q.holders, (q.holders.length : Int), (k : Int), Locks.mk qs, q, ())) (fun _ _ s => .inr s) (fun _ => r (qs, (qs.length : Int), ((i + 1 : Nat) : Int), Locks.mk qs, ())) ?_ ?_ n 0 () (Nat.zero_le _) (by omega)]
    · rw [List.drop_zero, runL_skip]
    · intro r2 k s a ha hk
      have hsub : sub q.holders 0 (k : Int) = some (q.holders.take k) := by
        have := sub_ok (l := q.holders) (a := 0) (b := k) (Nat.zero_le _) (by omega)
        simpa using this
      have htl : (q.holders.take k).length ≤ 100 := by rw [List.length_take]; omega
      simp only [lt_dec hk, cond_true, idx_nat, ha, Option.bind_some, hsub]
      show law08_safe_l3 n r2 n (qs, (qs.length : Int), (i : Int), q.holders, (q.holders.length : Int), (k : Int), q.holders.take k, ((q.holders.take k).length : Int), ((0 : Nat) : Int), Locks.mk qs, q, a, ()) = _
      unfold law08_safe_l3
      rw [run_loop (q.holders.take k) (fun j (_ : Unit) => (qs, (qs.length : Int), (i : Int), q.holders, (q.holders.length : Int), (k : Int), q.holders.take k, ((q.holders.take k).length : Int), (j : Int), Locks.mk qs, q, a, ())) (fun _ _ s => .inr s) (fun _ => r2 (qs, (qs.length : Int), (i : Int), q.holders, (q.holders.length : Int), ((k + 1 : Nat) : Int), Locks.mk qs, q, ())) ?_ ?_ n 0 () (Nat.zero_le _) (by omega)]
      · rw [List.drop_zero, runL_skip]
      · intro r3 j s b hb hj
        have hjk : j < k := by
          have := hj
          rw [List.length_take] at this; omega
        have hbq : q.holders[j]? = some b := by rw [← hb, List.getElem?_take_of_lt hjk]
        have hlt : b.txn < a.txn := by
          obtain ⟨l1, rfl⟩ := List.getElem?_eq_some_iff.1 hbq
          obtain ⟨l2, rfl⟩ := List.getElem?_eq_some_iff.1 ha
          exact List.pairwise_iff_getElem.1 hpv.srt j k l1 l2 hjk
        have hgo : goesB a.mode b.mode = true := by
          rw [goesB_comm]
          exact (goesL_iff.1 (hpv.fit a (List.mem_of_getElem? ha)) b (List.mem_of_getElem? hbq)).resolve_left (by omega)
        simp only [lt_dec hj, cond_true, idx_nat, hb, Option.bind_some, goes_eq n (by omega), hgo, Bool.not_true, cond_false, wrap_succ (show j < 4611686018427387904 by omega)]
      · intro r3 s
        simp only [ge_dec (Nat.lt_irrefl _), cond_false, wrap_succ (show k < 4611686018427387904 by omega)]
    · intro r2 s
      simp only [ge_dec (Nat.lt_irrefl _), cond_false]
      show law08_safe_l4 n r n (qs, (qs.length : Int), (i : Int), q.waiters, (q.waiters.length : Int), ((0 : Nat) : Int), Locks.mk qs, ()) = _
      unfold law08_safe_l4
      rw [run_loop q.waiters (fun j (_ : Unit) => (qs, (qs.length : Int), (i : Int), q.waiters, (q.waiters.length : Int), (j : Int), Locks.mk qs, ())) (fun _ _ s => .inr s) (fun _ => r (qs, (qs.length : Int), ((i + 1 : Nat) : Int), Locks.mk qs, ())) ?_ ?_ n 0 () (Nat.zero_le _) (by omega)]
      · rw [List.drop_zero, runL_skip]
      · intro r3 j s w hw hj
        have hne := List.length_pos_iff.2 (blkL_ne hl hqm (List.mem_of_getElem? hw))
        have h0 : (((blkL qs w.txn).length : Int) == 0) = false := by rw [ibeq]; exact decide_eq_false (by omega)
        simp only [lt_dec hj, cond_true, idx_nat, hw, Option.bind_some, blockers_eq n (by omega) (Locks.mk qs) hz.small hq, h0, cond_false, wrap_succ (show j < 4611686018427387904 by omega)]
      · intro r3 s
        simp only [ge_dec (Nat.lt_irrefl _), cond_false, wrap_succ (show i < 4611686018427387904 by omega)]
  · intro r s
    simp only [ge_dec (Nat.lt_irrefl _), cond_false]
section
variable (n : Nat) (hn : 3003 ≤ n) (os : List law08_Op) (L i : Int) {qs : List Queue} (hz : Sz qs) {o : law08_Op} {td : law08_told} (hd : Done o qs td) (hzt : Sz td.l.queues)
include hn hz hd hzt
theorem safe5 (r : (List law08_Op) × Int × Int × (List Queue) × Int × Int × Locks × law08_Op × law08_told × Unit → Option Bool) (j : Nat) (hj : j ≤ 1000) {q : Queue} (hq : q ∈ qs) :
    law08_LocksSafe_l5 n r n (os, L, i, qs, (qs.length : Int), (j : Int), q.holders, (q.holders.length : Int), 0, Locks.mk qs, o, td, q, ()) = r (os, L, i, qs, (qs.length : Int), ((j + 1 : Nat) : Int), Locks.mk qs, o, td, ()) := by
  have hqz := hz.2 q hq
  show law08_LocksSafe_l5 n r n (os, L, i, qs, (qs.length : Int), (j : Int), q.holders, (q.holders.length : Int), ((0 : Nat) : Int), Locks.mk qs, o, td, q, ()) = _
  unfold law08_LocksSafe_l5
  rw [run_loop q.holders (fun k (_ : Unit) => (os, L, i, qs, (qs.length : Int), (j : Int), q.holders, (q.holders.length : Int), (k : Int), Locks.mk qs, o, td, q, ())) (fun _ _ s => .inr s) (fun _ => r (os, L, i, qs, (qs.length : Int), ((j + 1 : Nat) : Int), Locks.mk qs, o, td, ())) ?_ ?_ n 0 () (Nat.zero_le _) (by omega)]
  · rw [List.drop_zero, runL_skip]
  · intro r2 k s h hh hk
    obtain ⟨a1, a2⟩ := held_after hd hq (List.mem_of_getElem? hh)
    have hml := modeC_eq n (by omega) td.l hzt.small (by have := hzt.1; omega) h.txn q.res
    rw [if_pos hd.ok, modeCD (lock_srt hd.ok)] at hml
    simp only [lt_dec hk, cond_true, idx_nat, hh, Option.bind_some, hml, zOp_eq, ibeq, jn, covers_eq n (by omega), ibne, wrap_succ (show k < 4611686018427387904 by omega)]
    by_cases h5 : zOp o = 5
    · by_cases ht : h.txn = o.txn
      · simp only [decide_eq_true h5, decide_eq_true ht, cond_true, a1 ⟨h5, ht⟩, decide_true, Bool.not_true, cond_false]
      · simp only [decide_eq_true h5, decide_eq_false ht, cond_true, cond_false, Bool.not_false, a2 fun k => ht k.2, Bool.not_true]
    · simp only [decide_eq_false h5, cond_true, cond_false, Bool.not_false, a2 fun k => h5 k.1, Bool.not_true]
  · intro r2 s
    simp only [ge_dec (Nat.lt_irrefl _), cond_false, wrap_succ (show j < 4611686018427387904 by omega)]
theorem safe6 (hgl : td.granted.length ≤ 200000) (hgn : td.granted.length < n) (J : (List law08_Op) × Int × Int × Locks × Unit → Option Bool) : law08_LocksSafe_l6 n J n (os, L, i, td.granted, (td.granted.length : Int), 0, Locks.mk qs, td, ()) = J (os, L, i, td.l, ()) := by
  show law08_LocksSafe_l6 n J n (os, L, i, td.granted, (td.granted.length : Int), ((0 : Nat) : Int), Locks.mk qs, td, ()) = _
  unfold law08_LocksSafe_l6
  rw [run_loop td.granted (fun k (_ : Unit) => (os, L, i, td.granted, (td.granted.length : Int), (k : Int), Locks.mk qs, td, ())) (fun _ _ s => .inr s) (fun _ => J (os, L, i, td.l, ())) ?_ ?_ n 0 () (Nat.zero_le _) hgn]
  · rw [List.drop_zero, runL_skip]
  · intro r2 k s g hg hk
    obtain ⟨r, m, e1, e2, e3⟩ := granted_after hd (List.mem_of_getElem? hg)
    have hw1 := waitsD_eq n (by omega) (Locks.mk qs) hz.small (by have := hz.1; show qs.length ≤ 1000; omega) g
    have hw1 : locks_Waits n (Locks.mk qs) g = some (r, m, true) := by rw [hw1, if_pos hd.lock]; exact congrArg some e1
    have hw2 := waitsD_eq n (by omega) td.l hzt.small (by have := hzt.1; omega) g
    rw [if_pos hd.ok, e2] at hw2
    have hml := modeC_eq n (by omega) td.l hzt.small (by have := hzt.1; omega) g r
    rw [if_pos hd.ok, modeCD (lock_srt hd.ok), e3] at hml
    simp only [lt_dec hk, cond_true, idx_nat, hg, Option.bind_some, hw1, hw2, jn, Bool.not_true, cond_false, hml, bne_self_eq_false, wrap_succ (show k < 4611686018427387904 by omega)]
  · intro r2 s
    simp only [ge_dec (Nat.lt_irrefl _), cond_false]
theorem safe4 (hgl : td.granted.length ≤ 200000) (hgn : td.granted.length < n) (J : (List law08_Op) × Int × Int × Locks × Unit → Option Bool) : law08_LocksSafe_l4 n J n (os, L, i, qs, (qs.length : Int), 0, Locks.mk qs, o, td, ()) = J (os, L, i, td.l, ()) := by
  have hq := hz.1
  show law08_LocksSafe_l4 n J n (os, L, i, qs, (qs.length : Int), ((0 : Nat) : Int), Locks.mk qs, o, td, ()) = _
  unfold law08_LocksSafe_l4
  rw [run_loop qs (fun j (_ : Unit) => (os, L, i, qs, (qs.length : Int), (j : Int), Locks.mk qs, o, td, ())) (fun _ _ s => .inr s) (fun _ => J (os, L, i, td.l, ())) ?_ ?_ n 0 () (Nat.zero_le _) (by omega)]
  · rw [List.drop_zero, runL_skip]
  · intro r2 j s q hx hj
    simp only [lt_dec hj, cond_true, idx_nat, hx, Option.bind_some]
    exact safe5 n hn os L i hz hd hzt r2 j (by omega) (List.mem_of_getElem? hx)
  · intro r2 s
    simp only [ge_dec (Nat.lt_irrefl _), cond_false]
    exact safe6 n hn os L i hz hd hzt hgl hgn J
end
theorem granted_few {qs : List Queue} {o : law08_Op} {td : law08_told} (hz : Sz qs) (hd : Done o qs td) : td.granted.length ≤ 200000 := by
  have gen : ∀ all, (grantL o.txn all qs).length ≤ 200000 := fun all => by
    have := grant_len (t := o.txn) (all := all) (qs := qs) fun q hq => ⟨(qB_iff.1 (lock_q hd.lock q hq)).2.2.1.srt, by have := hz.2 q hq; omega⟩
    have := hz.1; omega
  rcases hd.way with ⟨_, _, k⟩ | ⟨_, _, k⟩ | ⟨_, _, k, _⟩
  · rw [k]; exact gen true
  · rw [k]; exact gen false
  · rw [k]; simp
theorem plainLocksSafe (os : List law08_Op) (h1 : okT tab 9 (.sl (.st 6)) os) : ∃ n, law08_LocksSafe n os = some true := by
  obtain ⟨n, hn⟩ : ∃ n, 1000003 ≤ n := ⟨1000003, Nat.le_refl _⟩
  refine ⟨n, ?_⟩
  unfold law08_LocksSafe
  simp only [wakesL n (by omega), Option.bind_some, Bool.not_true, cond_false, jn]
  show law08_LocksSafe_l2 n (law08_LocksSafe_j1 n) n (os, (os.length : Int), ((0 : Nat) : Int), Locks.mk [], ()) = _
  unfold law08_LocksSafe_l2
  refine loop_to (some true) (min 60 os.length) (fun i (s : Locks) => (os, (os.length : Int), (i : Int), s, ())) (fun i s => (lockB s.queues = true ∨ s.queues = []) ∧ SzK i s.queues) ?_ ?_ n 0 (Locks.mk []) (Nat.zero_le _) (by omega) ⟨.inr rfl, by simp, by simp⟩
  · rintro r i ⟨qs⟩ hi ⟨_, hz⟩
    right
    have hi2 : i < os.length := by omega
    have h60 : ((i : Int) == 60) = false := by rw [ibeq]; exact decide_eq_false (by omega)
    generalize hop : os[i] = o
    have hoi : os[i]? = some o := by rw [get_some hi2, hop]
    have hz : SzK i qs := hz
    have hz100 : SzK 100 qs := ⟨hz.1, fun q hq => by have := hz.2 q hq; omega⟩
    have hsz := hz100.sz (Nat.le_refl _)
    obtain ⟨td, hrun, hcase⟩ := run_eq n (by omega) o hz100
    simp only [lt_dec hi2, cond_true, idx_nat, hoi, Option.bind_some, h60, cond_false, hrun, jn, ibne, law08_LocksSafe_j3, wrap_succ (show i < 4611686018427387904 by omega)]
    rcases hcase with he | ⟨he, hd⟩
    · rw [decide_eq_false he]
      refine ⟨Locks.mk qs, rfl, by assumption, hz.1, fun q hq => by have := hz.2 q hq; omega⟩
    · have hzt' := hd.sz hz
      have hzt : Sz td.l.queues := hzt'.sz (by omega)
      have hck := check_eq n (by omega) td.l hzt.small
      rw [if_pos hd.ok] at hck
      have hgf := granted_few hsz hd
      have hsafe : law08_safe n td.l = some true := safe_eq n (by omega) hd.ok hzt
      have h4 := safe4 n (by omega) os (os.length : Int) (i : Int) hsz hd hzt hgf (by omega) (law08_LocksSafe_j3 n r)
      rw [decide_eq_true he]
      refine ⟨td.l, ?_, .inl hd.ok, hzt'⟩
      simp only [Bool.not_true, cond_false, hck, Option.bind_some, decide_true, hsafe]
      have h4 : law08_LocksSafe_l4 n (law08_LocksSafe_j3 n r) n (os, (os.length : Int), (i : Int), qs, (qs.length : Int), 0, Locks.mk qs, o, td, ()) = _ := h4
      show law08_LocksSafe_l4 n (law08_LocksSafe_j3 n r) n (os, (os.length : Int), (i : Int), qs, (qs.length : Int), 0, Locks.mk qs, o, td, ()) = _
      rw [h4]
      show r (os, (os.length : Int), IntKind.wrap .i64 ((i : Int) + 1), td.l, ()) = _
      rw [wrap_succ (show i < 4611686018427387904 by omega)]
  · rintro r s _
    by_cases h : os.length ≤ 60
    · rw [Nat.min_eq_right h]
      simp only [ge_dec (Nat.lt_irrefl _), cond_false]; rfl
    · rw [Nat.min_eq_left (by omega)]
      simp only [lt_dec (show 60 < os.length by omega), cond_true, idx_nat, get_some (show 60 < os.length by omega), Option.bind_some]
      rfl
end Go.Proofs.YtndehfninoimgaaGreat
