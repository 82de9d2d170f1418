/- Layer 27: transactions that run one behind the other, played; their histories. -/
import Derived.Test.YtegnflodgnfffaaJudgeM
import Derived.Test.YtegnflodgnfffaaIdealB
namespace Go.Proofs.Ytegnflodgnfffaa
open Go.Bur
set_option linter.unusedSimpArgs false
set_option linter.unusedVariables false
set_option maxRecDepth 100000

/-! ### What one request is answered -/
theorem onRow_facts {l : List Row} {k : Key} {f : Row → Answer × List Row} (P : Answer → Prop) (h0 : P (ansE 4)) (h : ∀ r, getK l k = some r → P (f r).1) : P (onRow l k f).1 := by
  unfold onRow
  split
  · exact h0
  · rename_i r hr; exact h r hr
theorem do_facts (s : Schema) (l : List Row) (q : Request) : (doP s l q).1.rows.Sublist l ∧ (doP s l q).1.err ≠ 361 ∧ (doP s l q).1.err ≠ 250 := by
  have e0 : ∀ e, e ≠ 361 → e ≠ 250 → (ansE e).rows.Sublist l ∧ (ansE e).err ≠ 361 ∧ (ansE e).err ≠ 250 := fun e h1 h2 => ⟨List.nil_sublist _, h1, h2⟩
  have e4 := e0 4 (by decide) (by decide)
  have z0 := e0 0 (by decide) (by decide)
  have e152 := e0 152 (by decide) (by decide)
  unfold doP
  split
  · refine onRow_facts (fun a => a.rows.Sublist l ∧ a.err ≠ 361 ∧ a.err ≠ 250) e4 fun r hr => ?_
    exact ⟨List.singleton_sublist.2 (getK_mem hr).1, by show (0 : Int) ≠ 361; decide, by show (0 : Int) ≠ 250; decide⟩
  · split
    · exact ⟨List.filter_sublist, by show (0 : Int) ≠ 361; decide, by show (0 : Int) ≠ 250; decide⟩
    · split
      · split
        · split
          · exact e0 5 (by decide) (by decide)
          · split
            · exact e0 6 (by decide) (by decide)
            · exact z0
        · exact e152
      · split
        · exact onRow_facts (fun a => a.rows.Sublist l ∧ a.err ≠ 361 ∧ a.err ≠ 250) e4 fun r hr => z0
        · split
          · exact onRow_facts (fun a => a.rows.Sublist l ∧ a.err ≠ 361 ∧ a.err ≠ 250) e4 fun r hr => z0
          · split
            · split
              · exact onRow_facts (fun a => a.rows.Sublist l ∧ a.err ≠ 361 ∧ a.err ≠ 250) e4 fun r hr => z0
              · exact e152
            · split
              · refine onRow_facts (fun a => a.rows.Sublist l ∧ a.err ≠ 361 ∧ a.err ≠ 250) e4 fun r hr => ?_
                split
                · exact z0
                · exact e152
              · refine onRow_facts (fun a => a.rows.Sublist l ∧ a.err ≠ 361 ∧ a.err ≠ 250) e4 fun r hr => ?_
                refine onRow_facts (fun a => a.rows.Sublist l ∧ a.err ≠ 361 ∧ a.err ≠ 250) e4 fun t ht => ?_
                split
                · exact z0
                · exact e152
structure StepF (s : Schema) (x : Serial) (q : Request) : Prop where
  req : reqOk s q = true
  rows : listOk s (stepAll x q).2.rows = true
  e361 : (stepAll x q).2.err ≠ 361
  low : q.kind < 11 → (stepAll x q).1.over = false
  high : 11 ≤ q.kind → (stepAll x q).1.over = true ∧ (stepAll x q).2.err = 0
  com : q.kind = 12 → (stepAll x q).1.rows = x.begun
  begun : (stepAll x q).1.begun = x.begun
theorem step_facts {s : Schema} {x : Serial} {q : Request} (h : PlayOk s x) (ho : x.over = false) (hs : SchIn s) (hv : i64 q.val) (hne : (stepAll x q).2.err ≠ 250) : StepF s x q := by
  obtain ⟨hk, hsch⟩ := h
  obtain ⟨f1, f2, f3, f4, f5, f6⟩ := serOk_facts hk
  have hb := (keep_step hk (by rw [hsch]; exact hs) hv).2.2
  have h0 : ∀ e, listOk x.schema (ansE e).rows = true := fun e => ok_sub f2 (List.nil_sublist _)
  cases hq : reqOk x.schema q with
  | false =>
    exfalso
    apply hne
    unfold stepAll
    rw [hk, ho, hq]; rfl
  | true =>
    have hst : stepAll x q = stepP x q := by
      unfold stepAll
      rw [hk, ho, hq]; rfl
    obtain ⟨g1, g2, _⟩ := reqOk_facts hq
    rw [← hsch]
    refine ⟨hq, ?_, ?_, ?_, ?_, ?_, hb⟩
    · rw [hst]; unfold stepP
      split
      · split
        · exact h0 6
        · exact h0 0
      · split
        · split
          · exact h0 4
          · split
            · exact h0 0
            · exact h0 4
        · split
          · exact h0 0
          · split
            · exact h0 0
            · exact ok_sub f2 (do_facts _ _ _).1
    · rw [hst]; unfold stepP
      split
      · split
        · show (6 : Int) ≠ 361; decide
        · show (0 : Int) ≠ 361; decide
      · split
        · split
          · show (4 : Int) ≠ 361; decide
          · split
            · show (0 : Int) ≠ 361; decide
            · show (4 : Int) ≠ 361; decide
        · split
          · show (0 : Int) ≠ 361; decide
          · split
            · show (0 : Int) ≠ 361; decide
            · exact (do_facts _ _ _).2.1
    · intro hl
      rw [hst]; unfold stepP
      split
      · split
        · exact ho
        · exact ho
      · split
        · split
          · exact ho
          · split
            · exact ho
            · exact ho
        · rw [if_neg (by omega), if_neg (by omega)]; exact ho
    · intro hl
      rw [hst]; unfold stepP
      rw [if_neg (by omega), if_neg (by omega)]
      by_cases h11 : q.kind = 11
      · rw [if_pos h11]; exact ⟨rfl, rfl⟩
      · rw [if_neg h11, if_pos (by omega)]; exact ⟨rfl, rfl⟩
    · intro h12
      rw [hst]; unfold stepP
      rw [if_neg (by omega), if_neg (by omega), if_neg (by omega), if_pos h12]

/-! ### One transaction -/
def endQ (c : Bool) : Request := ⟨if c then 11 else 12, ⟨0, 0⟩, ⟨0, 0⟩, 0, ByteArray.empty, 0⟩
def skipQ (en y : Request) : Bool := (decide (y.kind ≥ 11) && !Request.eqb y en) || decide ((y.note.size : Int) > 100)
def turnP (k : Int) (en : Request) : List Request → Serial → List Entry × Serial
  | [], x => ([], x)
  | y :: t, x =>
    if skipQ en y then turnP k en t x
    else if (stepAll x y).2.err == 250 then turnP k en t x
    else if (stepAll x y).1.over then ([⟨k, y, (stepAll x y).2⟩], (stepAll x y).1)
    else (⟨k, y, (stepAll x y).2⟩ :: (turnP k en t (stepAll x y).1).1, (turnP k en t (stepAll x y).1).2)
theorem end_ok {s : Schema} (h : right s = true) (c : Bool) : reqOk s (endQ c) = true := by
  have h0 := inTab0 h
  unfold reqOk moreOk bareP endQ
  cases c <;> simp [Request.eqb, req0, key0] at h0 ⊢ <;> exact h0
theorem end_skip (c : Bool) : skipQ (endQ c) (endQ c) = false := by
  unfold skipQ endQ
  cases c <;> simp [Request.eqb] <;> decide
theorem eqb_kind {a b : Request} (h : Request.eqb a b = true) : a.kind = b.kind := by
  simp only [Request.eqb, Bool.and_eq_true, beq_iff_eq] at h
  first | exact h.1 | simp_all
structure Grp (s : Schema) (k : Int) (c : Bool) (x : Serial) (g : List Entry) (y : Serial) : Prop where
  txn : ∀ e ∈ g, e.txn = k
  ok : ∀ e ∈ g, reqOk s e.request = true ∧ listOk s e.answer.rows = true
  vals : ∀ e ∈ g, i64 e.request.val
  pair : g.Pairwise fine
  play : playE k g x = some y
  com : (g.filter commits).map Entry.txn = if c then [k] else []
  rows : c = false → y.rows = x.begun
  fin : PlayOk s y
  step : ∀ j e, g[j]? = some e → ∃ z, playE k (g.take j) x = some z ∧ e.answer = (stepAll z e.request).2
theorem grp {s : Schema} (hs : SchIn s) (hr : right s = true) (k : Int) (c : Bool) : ∀ (l : List Request) (x : Serial), (∀ q ∈ l, i64 q.val) → PlayOk s x → x.over = false → Grp s k c x (turnP k (endQ c) (l ++ [endQ c]) x).1 (turnP k (endQ c) (l ++ [endQ c]) x).2 := by
  have one : ∀ (y : Request) (x : Serial), i64 y.val → PlayOk s x → x.over = false → (stepAll x y).2.err ≠ 250 → 11 ≤ y.kind → y.kind = (if c then 11 else 12) → Grp s k c x [⟨k, y, (stepAll x y).2⟩] (stepAll x y).1 := fun y x hv hx ho hne hk hc => by
    have f := step_facts hx ho hs hv hne
    obtain ⟨q1, q2⟩ := f.high hk
    refine ⟨by simp, by simpa using ⟨f.req, f.rows⟩, by simpa using hv, by simp, ?_, ?_, ?_, play_step hx hs hv, fun j e he => ?_⟩
    · simp only [playE, beq_self_eq_true, if_true]
      have : passesB ⟨k, y, (stepAll x y).2⟩ = false := by
        unfold passesB
        simp only [q2]; rfl
      rw [this, ansSame_refl]; rfl
    · have : commits ⟨k, y, (stepAll x y).2⟩ = c := by
        unfold commits
        simp only [q2, hc]
        cases c <;> rfl
      simp only [List.filter_cons, this]
      cases c <;> rfl
    · intro hc'
      rw [hc'] at hc
      exact f.com (by simpa using hc)
    · cases j with
      | zero => simp at he; subst he; exact ⟨x, rfl, rfl⟩
      | succ j => simp at he
  intro l
  induction l with
  | nil =>
    intro x _ hx ho
    have hok := end_ok hr c
    have hne : (stepAll x (endQ c)).2.err ≠ 250 := by
      unfold stepAll
      rw [hx.ok, ho, show reqOk x.schema (endQ c) = true from by rw [hx.sch]; exact hok]
      unfold stepP
      cases c <;> simp [endQ, ansE]
    have hi : i64 (endQ c).val := ⟨by show (-9223372036854775808 : Int) ≤ 0; decide, by show (0 : Int) ≤ 9223372036854775807; decide⟩
    have f := step_facts hx ho hs hi hne
    have hk : 11 ≤ (endQ c).kind := by cases c <;> decide
    obtain ⟨q1, q2⟩ := f.high hk
    simp only [List.nil_append, turnP, end_skip, Bool.false_eq_true, if_false, show ((stepAll x (endQ c)).2.err == 250) = false from by simpa using hne, q1, if_true]
    exact one _ _ hi hx ho hne hk rfl
  | cons y l ih =>
    intro x hv hx ho
    have hv' : ∀ q ∈ l, i64 q.val := fun q hq => hv q (by simp [hq])
    have hvy := hv y (by simp)
    simp only [List.cons_append, turnP]
    cases hsk : skipQ (endQ c) y with
    | true => exact ih x hv' hx ho
    | false =>
      simp only [Bool.false_eq_true, if_false]
      by_cases hne : (stepAll x y).2.err = 250
      · rw [show ((stepAll x y).2.err == 250) = true from by simpa using hne]
        exact ih x hv' hx ho
      · rw [show ((stepAll x y).2.err == 250) = false from by simpa using hne]
        simp only [Bool.false_eq_true, if_false]
        have f := step_facts hx ho hs hvy hne
        by_cases hk : 11 ≤ y.kind
        · obtain ⟨q1, q2⟩ := f.high hk
          rw [q1]
          simp only [if_true]
          refine one y x hvy hx ho hne hk ?_
          have : Request.eqb y (endQ c) = true := by
            unfold skipQ at hsk
            rw [decide_eq_true (show y.kind ≥ 11 from hk)] at hsk
            simp only [Bool.true_and, Bool.or_eq_false_iff, Bool.not_eq_false'] at hsk
            exact hsk.1
          exact eqb_kind this
        · have q1 := f.low (by omega)
          rw [q1]
          simp only [Bool.false_eq_true, if_false]
          have hx' := play_step hx hs hvy
          have G := ih (stepAll x y).1 hv' hx' q1
          have hplay : ∀ t, playE k (⟨k, y, (stepAll x y).2⟩ :: t) x = playE k t (stepAll x y).1 := fun t => by
            simp only [playE, beq_self_eq_true, if_true]
            cases hp : passesB ⟨k, y, (stepAll x y).2⟩ with
            | false => rw [ansSame_refl]; rfl
            | true =>
              have he : (stepAll x y).2.err ≠ 0 := by
                intro e
                unfold passesB at hp
                simp only [e] at hp
                simp at hp
              rw [((step_err hx.ok).1 he).1]; rfl
          have hen : ∀ b, endsB b = true → b.request.kind < 11 → b.answer.err = 361 := fun b hb hl => by
            unfold endsB at hb
            simp only [Bool.or_eq_true, Bool.and_eq_true, beq_iff_eq] at hb
            rcases hb with hb | ⟨_, hb | hb⟩
            · exact hb
            · omega
            · omega
          refine ⟨?_, ?_, ?_, ?_, ?_, ?_, ?_, G.fin, fun j e he => ?_⟩
          · intro e he
            rcases List.mem_cons.1 he with rfl | he
            · rfl
            · exact G.txn e he
          · intro e he
            rcases List.mem_cons.1 he with rfl | he
            · exact ⟨f.req, f.rows⟩
            · exact G.ok e he
          · intro e he
            rcases List.mem_cons.1 he with rfl | he
            · exact hvy
            · exact G.vals e he
          · refine List.pairwise_cons.2 ⟨fun b _ _ => ?_, G.pair⟩
            cases h : endsB ⟨k, y, (stepAll x y).2⟩ with
            | false => rfl
            | true => exact absurd (hen _ h (by show y.kind < 11; omega)) f.e361
          · rw [hplay]; exact G.play
          · have : commits ⟨k, y, (stepAll x y).2⟩ = false := by
              unfold commits
              rw [show ((Entry.mk k y (stepAll x y).2).request.kind == 11) = false from by simp; omega]; rfl
            rw [List.filter_cons, this]
            exact G.com
          · intro hc
            rw [G.rows hc, f.begun]
          · cases j with
            | zero => simp at he; subst he; exact ⟨x, rfl, rfl⟩
            | succ j =>
              obtain ⟨z, z1, z2⟩ := G.step j e (by simpa using he)
              exact ⟨z, by rw [List.take_succ_cons, hplay]; exact z1, z2⟩
theorem turn_len (k : Int) (en : Request) : ∀ (l : List Request) (x : Serial), (turnP k en l x).1.length ≤ l.length
  | [], _ => Nat.le_refl _
  | y :: t, x => by
    unfold turnP
    have h1 := turn_len k en t x
    have h2 := turn_len k en t (stepAll x y).1
    split
    · simp only [List.length_cons]; omega
    · split
      · simp only [List.length_cons]; omega
      · split
        · simp
        · simp only [List.length_cons]; omega
end Go.Proofs.Ytegnflodgnfffaa
