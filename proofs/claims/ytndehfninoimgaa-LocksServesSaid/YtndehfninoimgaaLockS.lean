/- Layer 8 (locks): the law LocksServes. -/
import Derived.Test.YtndehfninoimgaaLockT
namespace Go.Proofs.Ytndehfninoimgaa
open Go.Bur
set_option linter.unusedSimpArgs false
set_option linter.unusedVariables false
set_option maxRecDepth 100000

theorem held_pump {x : Int} : ∀ {ws : List Wait} {hs : List Hold}, SrtH hs → (∀ w ∈ ws, w.txn ≠ x) → heldL (pumpL hs ws).1 x = heldL hs x
  | [], hs, _, _ => rfl
  | w :: ws, hs, h, hn => by
    unfold pumpL
    split
    · have h1 := held_pump (x := x) (ws := ws) (srt_insH (t := w.txn) (m := w.mode) h) fun v hv => hn v (List.mem_cons_of_mem _ hv)
      show heldL (pumpL (insH hs w.txn w.mode) ws).1 x = _
      rw [h1]
      exact held_ins h (fun e => hn w (List.mem_cons_self ..) e.symm)
    · rfl
theorem pump_wait {r : Res} {w : Wait} : ∀ {ws : List Wait} {hs : List Hold}, PV r hs ws → w ∈ ws → w ∈ (pumpL hs ws).2.1 ∨ ((∀ v ∈ (pumpL hs ws).2.1, v.txn ≠ w.txn) ∧ heldL (pumpL hs ws).1 w.txn = w.mode)
  | [], hs, _, hw => by cases hw
  | v :: ws, hs, h, hw => by
    have hnd : v.txn ∉ ws.map (·.txn) ∧ (ws.map (·.txn)).Nodup := List.nodup_cons.1 h.nd
    unfold pumpL
    cases hg : goesL hs v.txn v.mode with
    | true =>
      simp only [if_true]
      rcases List.mem_cons.1 hw with rfl | hw
      · right
        have hne : ∀ u ∈ ws, u.txn ≠ w.txn := fun u hu e => hnd.1 (by rw [← e]; exact List.mem_map.2 ⟨u, hu, rfl⟩)
        refine ⟨fun u hu => hne u (pump_sub.subset hu), ?_⟩
        rw [held_pump (srt_insH h.srt) hne, held_ins_self h.srt]
      · exact pump_wait (h.grant hg) hw
    | false =>
      simp only [Bool.false_eq_true, if_false]
      exact .inl hw
theorem pump_split : ∀ {ws : List Wait} {hs : List Hold}, ∃ G, ws = G ++ (pumpL hs ws).2.1 ∧ ∀ x ∈ (pumpL hs ws).1, x ∈ hs ∨ ∃ g ∈ G, x = Hold.mk g.txn g.mode
  | [], hs => ⟨[], rfl, fun x hx => .inl hx⟩
  | w :: ws, hs => by
    unfold pumpL
    split
    · obtain ⟨G, h1, h2⟩ := pump_split (ws := ws) (hs := insH hs w.txn w.mode)
      refine ⟨w :: G, by rw [List.cons_append]; exact congrArg (w :: ·) h1, fun x hx => ?_⟩
      rcases h2 x hx with h | ⟨g, hg, e⟩
      · rcases mem_insH.1 h with rfl | ⟨h, _⟩
        · exact .inr ⟨w, List.mem_cons_self .., rfl⟩
        · exact .inl h
      · exact .inr ⟨g, List.mem_cons_of_mem _ hg, e⟩
    · exact ⟨[], rfl, fun x hx => .inl hx⟩
theorem ahead_same {P S P' S' : List Wait} {w : Wait} (h : P ++ w :: S = P' ++ w :: S') (hnd : ((P ++ w :: S).map (·.txn)).Nodup) : P = P' := by
  have h1 : (P ++ w :: S)[P.length]? = some w := by simp
  have h2 : (P ++ w :: S)[P'.length]? = some w := by rw [h]; simp
  have e := nod_get hnd h1 h2 rfl
  have h3 : (P ++ w :: S).take P.length = P := by simp
  have h4 : (P ++ w :: S).take P.length = P' := by rw [e, h]; simp
  exact h3.symm.trans h4
theorem blk_some {q : Queue} (hq : qB q = true) {b : Nat} {w : Wait} (hb : q.waiters[b]? = some w) : blk q b w w.txn ≠ [] := by
  obtain ⟨_, _, _, hf⟩ := qB_iff.1 hq
  unfold blk
  intro e
  obtain ⟨e1, e2⟩ := List.append_eq_nil_iff.1 e
  have hlt := (List.getElem?_eq_some_iff.1 hb).1
  cases b with
  | zero =>
    cases hws : q.waiters with
    | nil => rw [hws] at hb; cases hb
    | cons v t =>
      rw [hws] at hb hf
      simp at hb
      subst hb
      simp only [firstB, Bool.not_eq_true'] at hf
      have : goesL q.holders v.txn v.mode = true := goesL_iff.2 fun x hx => by
        by_cases hxt : x.txn = v.txn
        · exact .inl hxt
        · right
          have h1 := List.map_eq_nil_iff.1 e1
          have h2 := List.filter_eq_nil_iff.1 h1 x hx
          simp [hxt] at h2
          exact h2
      rw [hf] at this; cases this
  | succ b =>
    have h1 := List.map_eq_nil_iff.1 e2
    have h2 : (q.waiters.take (b + 1)).length = 0 := by rw [h1]; rfl
    rw [List.length_take] at h2
    omega
/-- It waits, for nobody but these. -/
def WaS (qs : List Queue) (t : Int) (r : Res) (m : Int) (R : List Int) : Prop := ∃ q ∈ qs, ∃ b w, q.waiters[b]? = some w ∧ w.txn = t ∧ q.res = r ∧ w.mode = m ∧ ∀ x ∈ blk q b w t, x ∈ R
/-- It is granted. -/
def GrS (qs : List Queue) (t : Int) (r : Res) (m : Int) : Prop := (∀ w ∈ wT qs, w.txn ≠ t) ∧ ∃ q ∈ qs, q.res = r ∧ heldL q.holders t = m
theorem mem_wT {qs : List Queue} {w : Wait} : w ∈ wT qs ↔ ∃ q ∈ qs, w ∈ q.waiters := by unfold wT; exact List.mem_flatMap
theorem left_mem {qs : List Queue} {q : Queue} (hq : q ∈ qs) {n t m : Int} (hm : m ≠ 0) (hh : heldL (leftQ n true q).holders t = m) : leftQ n true q ∈ leftL n true qs := by
  refine List.mem_filter.2 ⟨List.mem_map.2 ⟨q, hq, rfl⟩, ?_⟩
  have : (leftQ n true q).holders.length ≠ 0 := fun e => hm (by rw [← hh, List.eq_nil_of_length_eq_zero e]; rfl)
  simpa using this
theorem serve_step {qs : List Queue} (hl : lockB qs = true) {n t m : Int} {r : Res} {R : List Int} (hnt : n ≠ t) (hm : m ≠ 0) (h : WaS qs t r m (n :: R) ∨ GrS qs t r m) : WaS (leftL n true qs) t r m R ∨ GrS (leftL n true qs) t r m := by
  rcases h with ⟨q, hq, b, w, hb, rfl, rfl, rfl, hR⟩ | ⟨hno, q, hq, rfl, rfl⟩
  · obtain ⟨h1, h2, h3, h4⟩ := qB_iff.1 (lock_q hl q hq)
    have hpv := h3.del n true
    simp only [if_true] at hpv
    have hwm : w ∈ q.waiters.filter fun w => !decide (w.txn = n) := List.mem_filter.2 ⟨List.mem_of_getElem? hb, by simp; omega⟩
    rcases pump_wait hpv hwm with hw | ⟨hw, hh⟩
    · left
      obtain ⟨b', hb'⟩ := List.mem_iff_getElem?.1 hw
      have hne : (leftQ n true q).holders ≠ [] := fun e => by
        have hf := hpv.pump.2
        have e' : (pumpL (q.holders.filter fun x => !decide (x.txn = n)) (q.waiters.filter fun w => !decide (w.txn = n))).1 = [] := e
        rw [e'] at hf
        cases hws : (pumpL (q.holders.filter fun x => !decide (x.txn = n)) (q.waiters.filter fun w => !decide (w.txn = n))).2.1 with
        | nil => rw [hws] at hw; cases hw
        | cons v vs => rw [hws] at hf; simp [firstB, goesL] at hf
      have hmem : leftQ n true q ∈ leftL n true qs := List.mem_filter.2 ⟨List.mem_map.2 ⟨q, hq, rfl⟩, by
        have : (leftQ n true q).holders.length ≠ 0 := fun e => hne (List.eq_nil_of_length_eq_zero e)
        simpa using this⟩
      refine ⟨leftQ n true q, hmem, b', w, hb', rfl, rfl, rfl, fun x hx => ?_⟩
      -- what stood ahead
      obtain ⟨G, hG, hGh⟩ := pump_split (ws := q.waiters.filter fun w => !decide (w.txn = n)) (hs := q.holders.filter fun x => !decide (x.txn = n))
      have hlt := (List.getElem?_eq_some_iff.1 hb).1
      have hspl : q.waiters = q.waiters.take b ++ w :: q.waiters.drop (b + 1) := by
        have := List.take_append_drop b q.waiters
        rw [List.drop_eq_getElem_cons hlt, (List.getElem?_eq_some_iff.1 hb).2] at this
        exact this.symm
      have hlt' := (List.getElem?_eq_some_iff.1 hb').1
      have hspl' : (pumpL (q.holders.filter fun x => !decide (x.txn = n)) (q.waiters.filter fun w => !decide (w.txn = n))).2.1 = ((pumpL (q.holders.filter fun x => !decide (x.txn = n)) (q.waiters.filter fun w => !decide (w.txn = n))).2.1).take b' ++ w :: ((pumpL (q.holders.filter fun x => !decide (x.txn = n)) (q.waiters.filter fun w => !decide (w.txn = n))).2.1).drop (b' + 1) := by
        have := List.take_append_drop b' (pumpL (q.holders.filter fun x => !decide (x.txn = n)) (q.waiters.filter fun w => !decide (w.txn = n))).2.1
        rw [List.drop_eq_getElem_cons hlt', (List.getElem?_eq_some_iff.1 hb').2] at this
        exact this.symm
      have hf1 : (q.waiters.filter fun w => !decide (w.txn = n)) = ((q.waiters.take b).filter fun w => !decide (w.txn = n)) ++ w :: ((q.waiters.drop (b + 1)).filter fun w => !decide (w.txn = n)) := by
        conv => lhs; rw [hspl]
        rw [List.filter_append, List.filter_cons, if_pos (by simp; omega)]
      have hnd1 : ((q.waiters.filter fun w => !decide (w.txn = n)).map (·.txn)).Nodup := hpv.nd
      have hahead : ((q.waiters.take b).filter fun w => !decide (w.txn = n)) = G ++ ((pumpL (q.holders.filter fun x => !decide (x.txn = n)) (q.waiters.filter fun w => !decide (w.txn = n))).2.1).take b' := by
        refine ahead_same (w := w) (S := (q.waiters.drop (b + 1)).filter fun w => !decide (w.txn = n)) (S' := ((pumpL (q.holders.filter fun x => !decide (x.txn = n)) (q.waiters.filter fun w => !decide (w.txn = n))).2.1).drop (b' + 1)) ?_ (by rw [← hf1]; exact hnd1)
        rw [← hf1, List.append_assoc, ← hspl']
        exact hG
      have early : ∀ v, v ∈ G ∨ v ∈ ((pumpL (q.holders.filter fun x => !decide (x.txn = n)) (q.waiters.filter fun w => !decide (w.txn = n))).2.1).take b' → v.txn ∈ blk q b w w.txn ∧ v.txn ≠ n := fun v hv => by
        have : v ∈ (q.waiters.take b).filter fun w => !decide (w.txn = n) := by rw [hahead]; exact List.mem_append.2 hv
        obtain ⟨k1, k2⟩ := List.mem_filter.1 this
        exact ⟨List.mem_append_right _ (List.mem_map.2 ⟨v, k1, rfl⟩), by simpa using k2⟩
      have both : x ∈ blk q b w w.txn ∧ x ≠ n := by
        unfold blk at hx
        rcases List.mem_append.1 hx with hx | hx
        · obtain ⟨y, hy, rfl⟩ := List.mem_map.1 hx
          obtain ⟨hy, hyc⟩ := List.mem_filter.1 hy
          rcases hGh y hy with hy' | ⟨g, hg, rfl⟩
          · obtain ⟨k1, k2⟩ := List.mem_filter.1 hy'
            exact ⟨List.mem_append_left _ (List.mem_map.2 ⟨y, List.mem_filter.2 ⟨k1, hyc⟩, rfl⟩), by simpa using k2⟩
          · exact early g (.inl hg)
        · obtain ⟨y, hy, rfl⟩ := List.mem_map.1 hx
          exact early y (.inr hy)
      exact (List.mem_cons.1 (hR x both.1)).resolve_left both.2
    · right
      refine ⟨fun v hv => ?_, leftQ n true q, left_mem hq hm hh, rfl, hh⟩
      intro e
      obtain ⟨p', hp', hv⟩ := mem_wT.1 hv
      obtain ⟨hp', _⟩ := List.mem_filter.1 hp'
      obtain ⟨p, hp, rfl⟩ := List.mem_map.1 hp'
      have hvp := (left_sub n true p).subset hv
      obtain ⟨bv, hbv⟩ := List.mem_iff_getElem?.1 hvp
      obtain ⟨i1, o1⟩ := occ_uniq (k := 0) (lock_nod hl) p hp bv v hbv e
      obtain ⟨i2, o2⟩ := occ_uniq (k := 0) (lock_nod hl) q hq b w hb rfl
      rw [o1] at o2
      simp only [Option.some.injEq, Prod.mk.injEq] at o2
      obtain ⟨_, rfl, _, rfl⟩ := o2
      exact hw v hv e
  · right
    have hqn : ∀ w ∈ q.waiters.filter (fun w => !decide (w.txn = n)), w.txn ≠ t := fun w hw => hno w (mem_wT.2 ⟨q, hq, (List.mem_filter.1 hw).1⟩)
    obtain ⟨h1, h2, h3, h4⟩ := qB_iff.1 (lock_q hl q hq)
    have hh : heldL (leftQ n true q).holders t = heldL q.holders t := by
      show heldL (pumpL (q.holders.filter fun x => !decide (x.txn = n)) (q.waiters.filter fun w => !decide (w.txn = n))).1 t = _
      rw [held_pump (h3.srt.filter _) hqn]
      exact held_del h3.srt (fun e => hnt e.symm)
    refine ⟨fun v hv => hno v ((wT_sub (left_sub n true) qs).subset hv), leftQ n true q, left_mem hq hm hh, rfl, hh⟩
theorem modeD_at {t : Int} {x : Res} : ∀ {qs : List Queue}, (qs.Pairwise fun a b => ltQ a b = true) → ∀ q ∈ qs, q.res = x → modeD t x qs = heldL q.holders t
  | [], _, _, h, _ => by cases h
  | p :: r, h, q, hq, he => by
    obtain ⟨h1, h2⟩ := List.pairwise_cons.1 h
    rw [modeD]
    rcases List.mem_cons.1 hq with rfl | hq
    · have : Res.eqb q.res x = true := by rw [he]; simp [Res.eqb]
      rw [this]; rfl
    · cases hpx : Res.eqb p.res x with
      | true =>
        have := h1 q hq
        unfold ltQ at this
        rw [eqb_res hpx, he, ltR_irr] at this; cases this
      | false => exact modeD_at h2 q hq he
/-- How much there is, in each queue. -/
def Sz (qs : List Queue) : Prop := qs.length ≤ 501 ∧ ∀ q ∈ qs, q.holders.length + q.waiters.length ≤ 100
theorem Sz.small {qs : List Queue} (h : Sz qs) : SmallL qs := fun q hq => by have := h.2 q hq; omega
theorem left_sz {qs : List Queue} (hl : lockB qs = true) (h : Sz qs) (n : Int) (all : Bool) : Sz (leftL n all qs) := by
  constructor
  · unfold leftL
    have := List.length_filter_le (fun q : Queue => !decide (q.holders.length = 0)) (qs.map (leftQ n all))
    rw [List.length_map] at this
    have := h.1; omega
  · intro q hq
    obtain ⟨hq, _⟩ := List.mem_filter.1 hq
    obtain ⟨p, hp, rfl⟩ := List.mem_map.1 hq
    have hpv := (qB_iff.1 (lock_q hl p hp)).2.2.1.del n all
    have h1 := (pump_len (ws := p.waiters.filter fun w => !decide (w.txn = n)) hpv.srt).1
    have h2 := List.length_filter_le (fun w : Wait => !decide (w.txn = n)) p.waiters
    have h3 : (if all then p.holders.filter fun x => !decide (x.txn = n) else p.holders).length ≤ p.holders.length := by
      cases all with
      | true => exact List.length_filter_le _ _
      | false => exact Nat.le_refl _
    have := h.2 p hp
    show (pullQ n all p).1.length + (pullQ n all p).2.1.length ≤ 100
    unfold pullQ; omega
theorem release_ok (n : Nat) (hn : 1003 ≤ n) {qs : List Queue} (hl : lockB qs = true) (hs : Sz qs) {t : Int} (ht : txnB t = true) : locks_Release n (Locks.mk qs) t = some (Locks.mk (leftL t true qs), grantL t true qs, 0) := by
  refine release_step hn hs.small (by have := hs.1; show qs.length ≤ 1000; omega) hl ht (t' := t) ?_
  unfold locks_Release_1
  rw [without_eq n hn t true qs (by have := hs.1; omega) fun q hq => ⟨(qB_iff.1 (lock_q hl q hq)).2.2.1.srt, by have := hs.2 q hq; omega, by have := hs.2 q hq; omega⟩]
  rfl
theorem plainLocksServes (x : Locks) (t : Int) (h1 : okT tab 9 (.st 4) x) (h2 : okT tab 9 (.int .i64) t) : ∃ n, law08_LocksServes n x t = some true := by
  obtain ⟨n, hn⟩ : ∃ n, 1000003 ≤ n := ⟨1000003, Nat.le_refl _⟩
  refine ⟨n, ?_⟩
  have hsm := few_small x.queues
  have hlen := few_len x.queues
  have hsz : Sz (fewL x.queues) := ⟨hlen, fun q hq => by have := hsm q hq; omega⟩
  unfold law08_LocksServes
  simp only [wakesL n (by omega), Option.bind_some, Bool.not_true, cond_false, few_eq n (by omega), check_eq n (by omega) (Locks.mk (fewL x.queues)) hsm.l]
  generalize fewL x.queues = qs at hsm hlen hsz
  cases hl : lockB qs with
  | false => rfl
  | true =>
    simp only [if_true, bne_self_eq_false, cond_false, waitsD_eq n (by omega) (Locks.mk qs) hsm.l (show qs.length ≤ 1000 by omega), hl, Option.bind_some, blockers_eq n (by omega) (Locks.mk qs) hsm.l (show qs.length ≤ 1000 by omega)]
    cases ho : occQ t 0 qs with
    | none =>
      have e1 : waitB qs t = (Res.mk 0 false 0, 0, false) := by unfold waitB; rw [ho]
      have e2 : blkL qs t = [] := by unfold blkL; rw [ho]
      rw [e1, e2]; rfl
    | some z =>
      obtain ⟨i, q, b, w⟩ := z
      obtain ⟨⟨j, _, hj⟩, hb, hw⟩ := occQ_some ho
      have hq := List.mem_of_getElem? hj
      have e1 : waitB qs t = (q.res, w.mode, true) := by unfold waitB; rw [ho]
      have e2 : blkL qs t = cpZ (sortZ (blk q b w t)) := by unfold blkL; rw [ho]; simp only [hl, if_true]
      have hB : ∀ y, y ∈ blkL qs t ↔ y ∈ blk q b w t := fun y => by rw [e2]; exact (cp_sort _).2 y
      have hqb := lock_q hl q hq
      obtain ⟨q1, q2, q3, q4⟩ := qB_iff.1 hqb
      have hwm : w ∈ q.waiters := List.mem_of_getElem? hb
      have hm0 : w.mode ≠ 0 := by
        have := (wS_iff.1 (q3.wok w hwm)).2.1
        unfold modeB at this
        simp only [Bool.and_eq_true, Bool.not_eq_true', decide_eq_false_iff_not] at this
        exact this.1
      have hne : blkL qs t ≠ [] := fun e => blk_some hqb hb (by
        rw [hw]
        exact List.eq_nil_iff_forall_not_mem.2 fun y hy => by rw [← hB, e] at hy; cases hy)
      have hgood : ∀ y ∈ blkL qs t, txnB y = true ∧ y ≠ t := fun y hy => by
        have hy := (hB y).1 hy
        refine ⟨blk_txn (lock_holders hl hq) (lock_waiters hl hq) hy, ?_⟩
        unfold blk at hy
        rcases List.mem_append.1 hy with hy | hy
        · obtain ⟨h, hh, rfl⟩ := List.mem_map.1 hy
          have := (List.mem_filter.1 hh).2
          simp at this
          exact this.1
        · obtain ⟨v, hv, rfl⟩ := List.mem_map.1 hy
          intro e
          obtain ⟨k, hk⟩ := List.mem_iff_getElem?.1 hv
          have hkl := (List.getElem?_eq_some_iff.1 hk).1
          rw [List.length_take] at hkl
          rw [List.getElem?_take_of_lt (by omega)] at hk
          have := nod_get q3.nd hk hb (e.trans hw.symm)
          omega
      have hlB := blkL_len8 hsm t
      rw [e1]
      simp only [Bool.not_true, cond_false]
      generalize blkL qs t = B at hB hne hgood hlB
      show law08_LocksServes_l1 n n (t, w.mode, (B.length : Int), ((0 : Nat) : Int), Locks.mk qs, q.res, B, ()) = _
      have start : WaS qs t q.res w.mode B ∨ GrS qs t q.res w.mode := .inl ⟨q, hq, b, w, hb, hw, rfl, rfl, fun y hy => (hB y).2 hy⟩
      have key : ∀ (R pre : List Int) (ps : List Queue) (k : Nat), B = pre ++ R → lockB ps = true → Sz ps → (WaS ps t q.res w.mode R ∨ GrS ps t q.res w.mode) → R.length < k →
          law08_LocksServes_l1 n k (t, w.mode, (B.length : Int), (pre.length : Int), Locks.mk ps, q.res, B, ()) = some true := by
        intro R
        induction R with
        | nil =>
          intro pre ps k he hps hz hst hk
          obtain ⟨k, rfl⟩ : ∃ k', k = k' + 1 := ⟨k - 1, by omega⟩
          have hgr : GrS ps t q.res w.mode := hst.resolve_left fun ⟨p, hp, bp, v, hv, hvt, _, _, hR⟩ => by
            subst hvt
            exact blk_some (lock_q hps p hp) hv (List.eq_nil_iff_forall_not_mem.2 fun y hy => by have := hR y hy; cases this)
          obtain ⟨hno, p, hp, hpr, hpm⟩ := hgr
          have hwb : waitB ps t = (Res.mk 0 false 0, 0, false) := by
            unfold waitB
            cases ho : occQ t 0 ps with
            | none => rfl
            | some z =>
              obtain ⟨i', q', b', w'⟩ := z
              obtain ⟨⟨j', _, hj'⟩, hb', hw'⟩ := occQ_some ho
              exact absurd hw' (hno w' (mem_wT.2 ⟨q', List.mem_of_getElem? hj', List.mem_of_getElem? hb'⟩))
          unfold law08_LocksServes_l1
          rw [loopF]
          simp only []
          rw [List.append_nil] at he
          rw [decide_eq_false (by rw [he]; omega)]
          have hbp : (B.length : Int) > 0 := by
            have := List.length_pos_iff.2 hne
            omega
          have hzl : ps.length ≤ 1000 := by have := hz.1; omega
          simp only [cond_false, waitsD_eq n (by omega) (Locks.mk ps) hz.small hzl, hps, if_true, hwb, Option.bind_some, jn, decide_eq_true hbp, cond_true, Bool.not_false, modeC_eq n (by omega) (Locks.mk ps) hz.small hzl, modeCD (lock_srt hps), modeD_at (lock_srt hps) p hp hpr, hpm, beq_self_eq_true]
        | cons a R ih =>
          intro pre ps k he hps hz hst hk
          obtain ⟨k, rfl⟩ : ∃ k', k = k' + 1 := ⟨k - 1, by omega⟩
          have hx : B[pre.length]? = some a := by rw [he]; simp
          have hlenB : B.length = pre.length + (R.length + 1) := by rw [he]; simp
          obtain ⟨ha1, ha2⟩ := hgood a (List.mem_of_getElem? hx)
          have ih := ih (pre ++ [a]) (leftL a true ps) k (by rw [he]; simp) (left_ok hps a true) (left_sz hps hz a true) (serve_step hps ha2 hm0 hst) (by simp at hk; omega)
          obtain ⟨r, hr⟩ : ∃ r, r = law08_LocksServes_l1 n k := ⟨_, rfl⟩
          rw [← hr, List.length_append, List.length_singleton] at ih
          unfold law08_LocksServes_l1 at hr ⊢
          rw [loopF, ← hr]
          clear hr
          simp only []
          rw [decide_eq_true (by omega)]
          simp only [cond_true, idx_nat, hx, Option.bind_some, release_ok n (by omega) hps hz ha1, bne_self_eq_false, cond_false, jn, ibeq, decide_eq_false ha2, wrap_succ (show pre.length < 4611686018427387904 by omega)]
          exact ih
      exact key B [] qs n rfl hl hsz start (by omega)
end Go.Proofs.Ytndehfninoimgaa
