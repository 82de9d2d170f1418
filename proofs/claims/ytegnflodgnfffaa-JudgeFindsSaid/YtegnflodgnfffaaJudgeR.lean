/- Layer 27: a transaction's entries, played. -/
import Derived.Test.YtegnflodgnfffaaJudgeC
import Derived.Test.YtegnflodgnfffaaIdealK
namespace Go.Proofs.Ytegnflodgnfffaa
open Go.Bur
set_option linter.unusedSimpArgs false
set_option linter.unusedVariables false
set_option maxRecDepth 100000

/-- The entries of a transaction, one behind the other: how the loop is left, the place, the state. -/
def playR (txn : Int) : List Entry → Nat → Serial → Nat × (Int × Bool × judge_run × Unit)
  | [], _, x => (0, (0, false, ⟨x⟩, ()))
  | e :: t, i, x =>
    if e.txn == txn then
      if passesB e then playR txn t (i + 1) x
      else if ansSame (stepAll x e.request).2 e.answer then playR txn t (i + 1) (stepAll x e.request).1
      else (1, ((i : Int), false, ⟨x⟩, ()))
    else playR txn t (i + 1) x
/-- One round of plays. -/
def roundP (y : Int × Entry × Unit) (z : Int × Bool × judge_run × Unit) : Nat × (Int × Bool × judge_run × Unit) :=
  if passesB y.2.1 then (0, z)
  else if ansSame (stepAll z.2.2.1.serial y.2.1.request).2 y.2.1.answer then (0, (z.1, z.2.1, ⟨(stepAll z.2.2.1.serial y.2.1.request).1⟩, ()))
  else (1, (y.1, false, z.2.2.1, ()))
/-- What may be, of the state in which entries are played. -/
structure PlayOk (s : Schema) (x : Serial) : Prop where
  ok : serOk x = true
  sch : x.schema = s
theorem play_step {s : Schema} {x : Serial} {q : Request} (h : PlayOk s x) (hs : SchIn s) (hv : i64 q.val) : PlayOk s (stepAll x q).1 := by
  obtain ⟨a, b, c⟩ := keep_step h.ok (by rw [h.sch]; exact hs) hv
  exact ⟨a, by rw [b, h.sch]⟩
theorem step_n (n : Nat) (hn : 1003 ≤ n) {s : Schema} {x : Serial} {q : Request} (h : PlayOk s x) (hs : SchIn s) (hv : i64 q.val) : ideal_Step n x q = some (stepAll x q) := by
  obtain ⟨f1, f2, f3, f4, f5, f6⟩ := serOk_facts h.ok
  exact step_eq n hn (serOk_small h.ok) hv (good_i64 (by rw [h.sch]; exact hs) f2)
theorem it_eq (n : Nat) (hn : 3000 ≤ n) (h : History) (hl : h.entries.length ≤ 2100) (hs : SchIn h.schema) (hv : ∀ e ∈ h.entries, i64 e.request.val) (txn : Int) (f : HL tabT [.int .i64, .st 6] → HL tabT [.int .i64, .bool, .st 10] → Option (Nat × HL tabT [.int .i64, .bool, .st 10]))
    (hf : ∀ (i : Int) (e : Entry) (x : Serial), e ∈ h.entries → PlayOk h.schema x → f (i, e, ()) (0, false, ⟨x⟩, ()) = some (roundP (i, e, ()) (0, false, ⟨x⟩, ()))) (x : Serial) (hx : PlayOk h.schema x) :
    judge_of_1_fyd0 n h txn f 0 (0, false, ⟨x⟩, ()) = some (f, playR txn h.entries 0 x) := by
  unfold judge_of_1_fyd0
  show judge_of_1_fyd0_l1 n n (txn, h.entries, (h.entries.length : Int), ((0 : Nat) : Int), f, 0, (0, false, ⟨x⟩, ()), ()) = _
  unfold judge_of_1_fyd0_l1
  refine (run_loopI h.entries (fun (i : Nat) (x : Serial) => (txn, h.entries, (h.entries.length : Int), (i : Int), f, 0, (0, false, judge_run.mk x, ()), ())) (fun i e x => if e.txn == txn then (if passesB e then .inr x else if ansSame (stepAll x e.request).2 e.answer then .inr (stepAll x e.request).1 else .inl (some (f, 1, ((i : Int), false, ⟨x⟩, ())))) else .inr x) (fun x => some (f, 0, (0, false, ⟨x⟩, ()))) (fun i x => PlayOk h.schema x) (fun i x e x' he hx hst => ?_) (fun r i x e he hi hx => ?_) (fun r x hx => ?_) n 0 x (Nat.zero_le _) (by omega) hx).trans ?_
  · have hm := List.mem_of_getElem? he
    split at hst
    · split at hst
      · simp only [Sum.inr.injEq] at hst; subst hst; exact hx
      · split at hst
        · simp only [Sum.inr.injEq] at hst; subst hst; exact play_step hx hs (hv e hm)
        · cases hst
    · simp only [Sum.inr.injEq] at hst; subst hst; exact hx
  · have hm := List.mem_of_getElem? he
    simp only [lt_dec hi, cond_true, idx_nat, he, Option.bind_some, wrap_succ (show i < 4611686018427387904 by omega), callY, hf _ e x hm hx, cond_false]
    unfold roundP
    cases (e.txn == txn) with
    | false => rfl
    | true =>
      cases hp : passesB e with
      | true => simp [hp]
      | false =>
        cases ha : ansSame (stepAll x e.request).2 e.answer with
        | true => simp [hp, ha]
        | false => simp [hp, ha]; rfl
  · simp only [ge_dec (Nat.lt_irrefl _), cond_false]
  · rw [List.drop_zero]
    have key : ∀ (l : List Entry) (i : Nat) (x : Serial), runL (fun i (e : Entry) (x : Serial) => if e.txn == txn then (if passesB e then .inr x else if ansSame (stepAll x e.request).2 e.answer then .inr (stepAll x e.request).1 else (.inl (some (f, 1, ((i : Int), false, judge_run.mk x, ()))) : Option _ ⊕ Serial)) else .inr x) (fun x => some (f, 0, (0, false, judge_run.mk x, ()))) l i x = some (f, playR txn l i x) := by
      intro l
      induction l with
      | nil => intro i x; rfl
      | cons e l ih =>
        intro i x
        simp only [runL, playR]
        cases (e.txn == txn) <;> cases passesB e <;> cases ansSame (stepAll x e.request).2 e.answer <;> first | rfl | exact ih _ _
    exact key _ _ _

/-! ### A transaction played; transactions replayed -/
def beginS (s : Schema) (l : List Row) : Serial := ⟨s, l, l, [], false⟩
structure HisOk (h : History) : Prop where
  small : SmallH h
  sch : SchIn h.schema
  vals : ∀ e ∈ h.entries, i64 e.request.val
  rgt : right h.schema = true
theorem playR_cases (txn : Int) : ∀ (l : List Entry) (i : Nat) (x : Serial), (playR txn l i x).1 = 0 ∨ (playR txn l i x).1 = 1
  | [], _, _ => .inl rfl
  | e :: t, i, x => by
    unfold playR
    split
    · split
      · exact playR_cases txn t _ _
      · split
        · exact playR_cases txn t _ _
        · exact .inr rfl
    · exact playR_cases txn t _ _
theorem playR_ok {s : Schema} (hs : SchIn s) (txn : Int) : ∀ (l : List Entry) (i : Nat) (x : Serial), (∀ e ∈ l, i64 e.request.val) → PlayOk s x → PlayOk s (playR txn l i x).2.2.2.1.serial
  | [], _, _, _, h => h
  | e :: t, i, x, hv, h => by
    have hv' : ∀ e ∈ t, i64 e.request.val := fun y hy => hv y (by simp [hy])
    unfold playR
    split
    · split
      · exact playR_ok hs txn t _ _ hv' h
      · split
        · exact playR_ok hs txn t _ _ hv' (play_step h hs (hv e (by simp)))
        · exact h
    · exact playR_ok hs txn t _ _ hv' h
theorem begin_ok {s : Schema} {l : List Row} (hr : right s = true) (hl : listOk s l = true) : PlayOk s (beginS s l) :=
  ⟨serOk_mk hr hl hl (by simp [beginS]) (by simp [beginS]) (by simp [beginS]), rfl⟩
def playO (h : History) (txn : Int) (l : List Row) : Nat × (Int × Bool × judge_run × Unit) := playR txn h.entries 0 (beginS h.schema l)
theorem plays_eq (n : Nat) (hn : 3000 ≤ n) {h : History} (hh : HisOk h) (txn : Int) {x : Serial} (hx : listOk h.schema x.rows = true) :
    judge_run_plays n h txn ⟨x⟩ = some (if (playO h txn x.rows).1 = 0 then (0, true, (playO h txn x.rows).2.2.2.1) else ((playO h txn x.rows).2.1, (playO h txn x.rows).2.2.1, (playO h txn x.rows).2.2.2.1)) := by
  have hl := (listOk_iff.1 hx).2
  unfold judge_run_plays
  rw [begin_eq n (by omega) h.schema x.rows hh.small.tables (by omega), hh.rgt, hx]
  simp only [if_true, Option.bind_some, show judge_of n h txn = some (h, txn) from rfl]
  have key := it_eq n hn h hh.small.entries hh.sch hh.vals txn (fun y3 z4 =>
        jn (judge_run_plays_j1 n) fun j1 =>
        (judge_Passes n y3.2.1).bind fun y8 =>
        cond y8
          (j1 (z4.1, z4.2.1, z4.2.2.1, ()))
          ((ideal_Step n z4.2.2.1.serial y3.2.1.request).bind fun y9 =>
          (ideal_SameAnswer n y9.2 y3.2.1.answer).bind fun y10 =>
          cond (!y10)
            (some (1, (y3.1, false, z4.2.2.1, ())))
            (j1 (z4.1, z4.2.1, (judge_run.mk y9.1), ())))) (fun i e y he hy => by
    simp only [jn, passes_eq, Option.bind_some, step_n n (by omega) hy hh.sch (hh.vals e he), sameAns_eq n (by omega) _ _ (small_step (serOk_small hy.ok)).2]
    unfold roundP
    simp only
    cases passesB e with
    | true => rfl
    | false =>
      cases ansSame (stepAll y e.request).2 e.answer <;> rfl) (beginS h.schema x.rows) (begin_ok hh.rgt hx)
  rw [show (beginS h.schema x.rows) = ⟨h.schema, x.rows, x.rows, [], false⟩ from rfl] at key
  rw [key]
  simp only [Option.bind_some]
  have hp : playO h txn x.rows = playR txn h.entries 0 ⟨h.schema, x.rows, x.rows, [], false⟩ := rfl
  rw [hp]
  rcases playR_cases txn h.entries 0 ⟨h.schema, x.rows, x.rows, [], false⟩ with h0 | h0
  · rw [h0]; rfl
  · rw [h0]; rfl
def replayR (h : History) : List Int → List Row → Int × Bool × List Row
  | [], l => (0, true, l)
  | t :: ts, l => if (playO h t l).1 = 0 then replayR h ts (playO h t l).2.2.2.1.serial.rows else ((playO h t l).2.1, false, [])
def playS (h : History) (_ : Nat) (t : Int) (x : judge_run) : Option (Int × Int × List Row) ⊕ judge_run :=
  if (playO h t x.serial.rows).1 = 0 then .inr (playO h t x.serial.rows).2.2.2.1 else .inl (some ((playO h t x.serial.rows).2.1, 371, []))
theorem playR_false (txn : Int) : ∀ (l : List Entry) (i : Nat) (x : Serial), (playR txn l i x).2.2.1 = false
  | [], _, _ => rfl
  | e :: t, i, x => by
    unfold playR
    split
    · split
      · exact playR_false txn t _ _
      · split
        · exact playR_false txn t _ _
        · rfl
    · exact playR_false txn t _ _
theorem replay_run (h : History) : ∀ (l : List Int) (i : Nat) (x : judge_run), runL (playS h) (fun x => some (0, 0, x.serial.rows)) l i x = some (if (replayR h l x.serial.rows).2.1 then (0, 0, (replayR h l x.serial.rows).2.2) else ((replayR h l x.serial.rows).1, 371, []))
  | [], _, _ => rfl
  | t :: ts, i, x => by
    simp only [runL, playS]
    by_cases h0 : (playO h t x.serial.rows).1 = 0
    · rw [show replayR h (t :: ts) x.serial.rows = replayR h ts (playO h t x.serial.rows).2.2.2.1.serial.rows from if_pos h0, if_pos h0]
      exact replay_run h ts _ _
    · rw [show replayR h (t :: ts) x.serial.rows = ((playO h t x.serial.rows).2.1, false, []) from if_neg h0, if_neg h0]
      rfl
theorem replay_eq (n : Nat) (hn : 3000 ≤ n) {h : History} (hh : HisOk h) (hb : listOk h.schema h.begun = true) (order : List Int) (ho : order.length ≤ 2100) (x : judge_run) (hx : listOk h.schema x.serial.rows = true) :
    judge_Replay_l1 n n (order, (order.length : Int), 0, h, x, ()) = some (if (replayR h order x.serial.rows).2.1 then (0, 0, (replayR h order x.serial.rows).2.2) else ((replayR h order x.serial.rows).1, 371, [])) := by
  show judge_Replay_l1 n n (order, (order.length : Int), ((0 : Nat) : Int), h, x, ()) = _
  unfold judge_Replay_l1
  refine (run_loopI order (fun (i : Nat) (x : judge_run) => (order, (order.length : Int), (i : Int), h, x, ())) (playS h) (fun x => some (0, 0, x.serial.rows)) (fun _ x => listOk h.schema x.serial.rows = true) (fun i x t x' _ hx he => ?_) (fun r i x t ht hi hx => ?_) (fun r x hx => ?_) n 0 x (Nat.zero_le _) (by omega) hx).trans ?_
  · unfold playS at he
    split at he
    · simp only [Sum.inr.injEq] at he
      subst he
      have := playR_ok hh.sch t h.entries 0 _ hh.vals (begin_ok hh.rgt hx)
      have h2 := (serOk_facts this.ok).2.1
      rw [this.sch] at h2
      exact h2
    · cases he
  · simp only [lt_dec hi, cond_true, idx_nat, ht, Option.bind_some, wrap_succ (show i < 4611686018427387904 by omega), plays_eq n hn hh t hx]
    unfold playS
    by_cases h0 : (playO h t x.serial.rows).1 = 0
    · rw [if_pos h0, if_pos h0]; rfl
    · rw [if_neg h0, if_neg h0, show (playO h t x.serial.rows).2.2.1 = false from playR_false _ _ _ _]; rfl
  · have := (listOk_iff.1 hx).2
    simp only [ge_dec (Nat.lt_irrefl _), cond_false, clone_ok n _ (show x.serial.rows.length ≤ 1000 by omega), Option.bind_some]
  · rw [List.drop_zero, replay_run]
def orderP (h : History) : List Int := (h.entries.filter commits).map Entry.txn
theorem orderP_len {h : History} (hl : h.entries.length ≤ 2100) : (orderP h).length ≤ 2100 := by
  unfold orderP
  rw [List.length_map]
  exact Nat.le_trans (List.length_filter_le _ _) hl
def judgeP (h : History) (e : List Row) : Int × Int :=
  if rightH h then (if (replayR h (orderP h) h.begun).2.1 then (if rowsSame (replayR h (orderP h) h.begun).2.2 e then (0, 0) else ((h.entries.length : Int), 372)) else ((replayR h (orderP h) h.begun).1, 371)) else (0, 370)
theorem replayR_ok {h : History} (hh : HisOk h) : ∀ (l : List Int) (x : List Row), listOk h.schema x = true → (replayR h l x).2.2.length ≤ 60
  | [], x, hx => (listOk_iff.1 hx).2
  | t :: ts, x, hx => by
    unfold replayR
    split
    · have := playR_ok hh.sch t h.entries 0 _ hh.vals (begin_ok hh.rgt hx)
      have h2 := (serOk_facts this.ok).2.1
      rw [this.sch] at h2
      exact replayR_ok hh ts _ h2
    · exact Nat.zero_le _
theorem rightH_facts {h : History} (hr : rightH h = true) : right h.schema = true ∧ listOk h.schema h.begun = true ∧ h.entries.length ≤ 2000 := by
  unfold rightH at hr
  simp only [Bool.and_eq_true, decide_eq_true_eq] at hr
  exact ⟨hr.1.1, hr.1.2, hr.2.1⟩
theorem judge_eq (n : Nat) (hn : 3000 ≤ n) {h : History} (hh : SmallH h) (hs : SchIn h.schema) (hv : ∀ e ∈ h.entries, i64 e.request.val) (e : List Row) : judge_Judge n h e = some (judgeP h e) := by
  unfold judge_Judge judge_Replay judgeP
  rw [order_eq n hn h hh.entries, Option.bind_some, jcheck_eq n hn h hh]
  cases hr : rightH h with
  | false => rfl
  | true =>
    obtain ⟨r1, r2, r3⟩ := rightH_facts hr
    have ok : HisOk h := ⟨hh, hs, hv, r1⟩
    have hl := (listOk_iff.1 r2).2
    simp only [if_true, Option.bind_some, show ((0 : Int) != 0) = false from rfl, cond_false, clone_ok n _ (show h.begun.length ≤ 1000 by omega)]
    have := replay_eq n hn ok r2 (orderP h) (orderP_len hh.entries) ⟨⟨⟨[]⟩, h.begun, [], [], false⟩⟩ r2
    unfold orderP at this
    rw [this]
    have h60 := replayR_ok ok (orderP h) h.begun r2
    unfold orderP at h60 ⊢
    simp only [Option.bind_some]
    cases hb : (replayR h ((h.entries.filter commits).map Entry.txn) h.begun).2.1 with
    | false => rfl
    | true =>
      simp only [if_true, show ((0 : Int) != 0) = false from rfl, cond_false, same_eq n (by omega) _ _ (show (replayR h ((h.entries.filter commits).map Entry.txn) h.begun).2.2.length ≤ 1000 by omega), Option.bind_some]
      cases rowsSame (replayR h ((h.entries.filter commits).map Entry.txn) h.begun).2.2 e <;> rfl
end Go.Proofs.Ytegnflodgnfffaa
