/- Layer 27: in which order entries of several transactions stand. The plain law JudgeMixed. -/
import Derived.Test.YtegnflodgnfffaaJudgeR
namespace Go.Proofs.Ytegnflodgnfffaa
open Go.Bur
set_option linter.unusedSimpArgs false
set_option linter.unusedVariables false
set_option maxRecDepth 100000

/-! ### Played, without places -/
def playE (txn : Int) : List Entry → Serial → Option Serial
  | [], x => some x
  | e :: t, x =>
    if e.txn == txn then
      if passesB e then playE txn t x
      else if ansSame (stepAll x e.request).2 e.answer then playE txn t (stepAll x e.request).1
      else none
    else playE txn t x
theorem playR_E (txn : Int) : ∀ (l : List Entry) (i : Nat) (x : Serial), (∃ y, playE txn l x = some y ∧ playR txn l i x = (0, (0, false, ⟨y⟩, ()))) ∨ (playE txn l x = none ∧ (playR txn l i x).1 = 1)
  | [], _, x => .inl ⟨x, rfl, rfl⟩
  | e :: t, i, x => by
    unfold playR playE
    cases e.txn == txn with
    | false => exact playR_E txn t _ _
    | true =>
      cases passesB e with
      | true => exact playR_E txn t _ _
      | false =>
        cases ansSame (stepAll x e.request).2 e.answer with
        | true => exact playR_E txn t _ _
        | false => exact .inr ⟨rfl, rfl⟩
def replayE (s : Schema) (es : List Entry) : List Int → List Row → Option (List Row)
  | [], l => some l
  | t :: ts, l => match playE t es (beginS s l) with
    | some y => replayE s es ts y.rows
    | none => none
theorem replayR_E (h : History) : ∀ (o : List Int) (l : List Row), (∃ r, replayE h.schema h.entries o l = some r ∧ replayR h o l = (0, true, r)) ∨ (replayE h.schema h.entries o l = none ∧ (replayR h o l).2.1 = false)
  | [], l => .inl ⟨l, rfl, rfl⟩
  | t :: ts, l => by
    unfold replayE replayR playO
    rcases playR_E t h.entries 0 (beginS h.schema l) with ⟨y, h1, h2⟩ | ⟨h1, h2⟩
    · rw [h1, h2]
      exact replayR_E h ts y.rows
    · rw [h1, if_neg (by rw [h2]; decide)]
      exact .inr ⟨rfl, rfl⟩
theorem judge_err (h : History) (e : List Row) : (judgeP h e).2 = if rightH h then (match replayE h.schema h.entries (orderP h) h.begun with
    | some r => if rowsSame r e then 0 else 372
    | none => 371) else 370 := by
  unfold judgeP
  cases rightH h with
  | false => rfl
  | true =>
    simp only [if_true]
    rcases replayR_E h (orderP h) h.begun with ⟨r, h1, h2⟩ | ⟨h1, h2⟩
    · rw [h1, h2]
      simp only [if_true]
      cases rowsSame r e <;> rfl
    · rw [h1, h2]; rfl

/-! ### What may be, by pairs -/
theorem allFrom_iff {α : Type} {p : Nat → α → Bool} : ∀ {l : List α} {i : Nat}, allFrom p i l = true ↔ ∀ j x, l[j]? = some x → p (i + j) x = true
  | [], i => by simp [allFrom]
  | x :: t, i => by
    simp only [allFrom, Bool.and_eq_true, allFrom_iff]
    constructor
    · rintro ⟨h1, h2⟩ j y hy
      cases j with
      | zero => simp at hy; subst hy; exact h1
      | succ j =>
        have := h2 j y (by simpa using hy)
        rw [show i + (j + 1) = i + 1 + j from by omega]; exact this
    · intro h
      refine ⟨h 0 x rfl, fun j y hy => ?_⟩
      have := h (j + 1) y (by simpa using hy)
      rw [show i + 1 + j = i + (j + 1) from by omega]; exact this
def fine (a b : Entry) : Prop := a.txn = b.txn → endsB a = false
theorem entries_ok {s : Schema} {l : List Entry} : allFrom (entAt s l) 0 l = true ↔ (∀ e ∈ l, entOk s e = true) ∧ l.Pairwise fine := by
  rw [allFrom_iff]
  constructor
  · intro h
    refine ⟨fun e he => ?_, ?_⟩
    · obtain ⟨j, hj⟩ := List.getElem?_of_mem he
      have := h j e hj
      unfold entAt at this
      simp only [Bool.and_eq_true] at this
      exact this.1
    · rw [List.pairwise_iff_getElem]
      intro i j hi hj hij ht
      have := h j l[j] (get_some hj)
      unfold entAt at this
      simp only [Bool.and_eq_true, Bool.not_eq_true', Nat.zero_add] at this
      have h2 := List.any_eq_false.1 this.2 l[i] (by
        rw [List.mem_take_iff_getElem]
        exact ⟨i, by omega, rfl⟩)
      unfold dupE at h2
      rw [ht] at h2
      simpa using h2
  · rintro ⟨h1, h2⟩ j x hx
    have hj : j < l.length := by
      rcases Nat.lt_or_ge j l.length with h | h
      · exact h
      · rw [List.getElem?_eq_none h] at hx; cases hx
    unfold entAt
    rw [h1 x (List.mem_of_getElem? hx), Bool.true_and, Nat.zero_add, Bool.not_eq_true', List.any_eq_false]
    intro y hy
    rw [List.mem_take_iff_getElem] at hy
    obtain ⟨i, hi, rfl⟩ := hy
    have hx' : l[j] = x := by rw [get_some hj] at hx; exact Option.some.inj hx
    have := List.pairwise_iff_getElem.1 h2 i j (by omega) hj (by omega)
    rw [hx'] at this
    unfold dupE
    simp only [Bool.and_eq_true, beq_iff_eq, not_and, Bool.not_eq_true]
    exact this

/-! ### Entries that come to the same -/
structure Eqv (a b : List Entry) : Prop where
  play : ∀ t x, playE t a x = playE t b x
  com : (a.filter commits).map Entry.txn = (b.filter commits).map Entry.txn
  len : a.length = b.length
  pair : a.Pairwise fine ↔ b.Pairwise fine
  mem : ∀ e, e ∈ a ↔ e ∈ b
theorem Eqv.refl (a : List Entry) : Eqv a a := ⟨fun _ _ => rfl, rfl, rfl, Iff.rfl, fun _ => Iff.rfl⟩
theorem Eqv.trans {a b c : List Entry} (h : Eqv a b) (k : Eqv b c) : Eqv a c :=
  ⟨fun t x => (h.play t x).trans (k.play t x), h.com.trans k.com, h.len.trans k.len, h.pair.trans k.pair, fun e => (h.mem e).trans (k.mem e)⟩
theorem play_swap {a b : Entry} (hab : a.txn ≠ b.txn) (t : Int) (B : List Entry) : ∀ (A : List Entry) (x : Serial), playE t (A ++ a :: b :: B) x = playE t (A ++ b :: a :: B) x
  | [], x => by
    simp only [List.nil_append, playE]
    by_cases h1 : a.txn = t
    · have h2 : ¬ b.txn = t := fun e => hab (h1.trans e.symm)
      rw [show (a.txn == t) = true from by simpa using h1, show (b.txn == t) = false from by simpa using h2]
      simp
    · rw [show (a.txn == t) = false from by simpa using h1]
      simp
  | e :: A, x => by
    simp only [List.cons_append, playE, play_swap hab t B A]
theorem eqv_swap {a b : Entry} (hab : a.txn ≠ b.txn) (hc : ¬ (a.request.kind = 11 ∧ b.request.kind = 11)) (A B : List Entry) : Eqv (A ++ a :: b :: B) (A ++ b :: a :: B) := by
  refine ⟨fun t x => play_swap hab t B A x, ?_, by simp, ?_, fun e => ?_⟩
  · simp only [List.filter_append, List.filter_cons]
    by_cases h1 : a.request.kind = 11
    · have h2 : commits b = false := by
        unfold commits
        rw [show (b.request.kind == 11) = false from by simpa using fun h => hc ⟨h1, h⟩]; rfl
      rw [h2]; simp
    · have h2 : commits a = false := by
        unfold commits
        rw [show (a.request.kind == 11) = false from by simpa using h1]; rfl
      rw [h2]; simp
  · have f1 : fine a b := fun h => absurd h hab
    have f2 : fine b a := fun h => absurd h.symm hab
    simp only [List.pairwise_append, List.pairwise_cons, List.mem_cons, forall_eq_or_imp]
    constructor
    · rintro ⟨hA, ⟨⟨_, h1⟩, h2, h3⟩, h4⟩
      exact ⟨hA, ⟨⟨f2, h2⟩, h1, h3⟩, fun x hx => ⟨(h4 x hx).2.1, (h4 x hx).1, (h4 x hx).2.2⟩⟩
    · rintro ⟨hA, ⟨⟨_, h1⟩, h2, h3⟩, h4⟩
      exact ⟨hA, ⟨⟨f1, h2⟩, h1, h3⟩, fun x hx => ⟨(h4 x hx).2.1, (h4 x hx).1, (h4 x hx).2.2⟩⟩
  · simp only [List.mem_append, List.mem_cons]
    constructor <;> (rintro (h | h | h | h) <;> simp [h])
theorem replayE_eqv {a b : List Entry} (h : Eqv a b) (s : Schema) : ∀ (o : List Int) (l : List Row), replayE s a o l = replayE s b o l
  | [], _ => rfl
  | t :: ts, l => by
    unfold replayE
    rw [h.play]
    cases playE t b (beginS s l) with
    | none => rfl
    | some y => exact replayE_eqv h s ts _
theorem right_eqv {s : Schema} {l : List Row} {a b : List Entry} (h : Eqv a b) : rightH ⟨s, l, a⟩ = rightH ⟨s, l, b⟩ := by
  unfold rightH
  simp only [h.len]
  have : allFrom (entAt s a) 0 a = allFrom (entAt s b) 0 b := by
    rw [Bool.eq_iff_iff, entries_ok, entries_ok, h.pair]
    constructor
    · rintro ⟨h1, h2⟩; exact ⟨fun e he => h1 e ((h.mem e).2 he), h2⟩
    · rintro ⟨h1, h2⟩; exact ⟨fun e he => h1 e ((h.mem e).1 he), h2⟩
  rw [this]
theorem judge_eqv {s : Schema} {l : List Row} {a b : List Entry} (h : Eqv a b) (e : List Row) : (judgeP ⟨s, l, a⟩ e).2 = (judgeP ⟨s, l, b⟩ e).2 := by
  rw [judge_err, judge_err, right_eqv h]
  unfold orderP
  simp only [h.com, replayE_eqv h]

/-! ### The law -/
theorem wrap_u64 (x : Int) : 0 ≤ IntKind.wrap .u64 x := by
  rw [IntKind.wrap_u64]; omega
theorem swap_list {α : Type} {l : List α} {z : Nat} {a b : α} (ha : l[z]? = some a) (hb : l[z + 1]? = some b) : ∃ A B, l = A ++ a :: b :: B ∧ (l.set z b).set (z + 1) a = A ++ b :: a :: B := by
  have h1 : z + 1 < l.length := by
    rcases Nat.lt_or_ge (z + 1) l.length with h | h
    · exact h
    · rw [List.getElem?_eq_none h] at hb; cases hb
  have ha' : l[z] = a := by rw [get_some (show z < l.length by omega)] at ha; exact Option.some.inj ha
  have hb' : l[z + 1] = b := by rw [get_some h1] at hb; exact Option.some.inj hb
  have e : l = l.take z ++ a :: b :: l.drop (z + 2) := by
    have e1 : l.drop z = a :: b :: l.drop (z + 2) := by
      rw [drop_cons (show z < l.length by omega), drop_cons h1, ha', hb']
    rw [← e1, List.take_append_drop]
  refine ⟨l.take z, l.drop (z + 2), e, ?_⟩
  have hz : (l.take z).length = z := by simp; omega
  generalize l.take z = A at e hz
  generalize l.drop (z + 2) = B at e
  subst e
  subst hz
  rw [List.set_append_right _ _ (Nat.le_refl _), Nat.sub_self, List.set_cons_zero, List.set_append_right _ _ (by omega), show A.length + 1 - A.length = 1 from by omega]
  rfl
theorem plainJudgeMixed (h : History) (e : List Row) (l : List Int) (h1 : okT tab 9 (.st 7) h) (h2 : okT tab 9 (.sl (.st 3)) e) (h3 : okT tab 9 (.sl (.int .i64)) l) : ∃ n, law27_JudgeMixed n h e l = some true := by
  refine ⟨4000, ?_⟩
  have hn : 3000 ≤ 4000 := by omega
  unfold law27_JudgeMixed
  simp only [wakes27, over27_eq 4000 hn, overRows_eq 4000 (by omega), Option.bind_some, jn, Bool.not_true, cond_false]
  cases ho : overH h with
  | true => rfl
  | false =>
    simp only [cond_false]
    cases overRowsP e with
    | true => rfl
    | false =>
      simp only [cond_false]
      by_cases hl : (h.entries.length : Int) > 150
      · rw [decide_eq_true hl]; rfl
      · rw [decide_eq_false hl]
        simp only [cond_false]
        by_cases hl2 : (l.length : Int) > 200
        · rw [decide_eq_true hl2]; rfl
        · rw [decide_eq_false hl2]
          have hh := overH_small ho
          have hs : SchIn h.schema := fun b hb => ⟨(h1.1.1 b hb).1, (h1.1.1 b hb).2.1⟩
          have hv : ∀ x ∈ h.entries, i64 x.request.val := fun x hx => (h1.2.2.1.1 x hx).2.2.2.2.2.2.1
          have he : h.entries.length ≤ 150 := by omega
          simp only [cond_false, judge_eq 4000 hn hh hs hv, Option.bind_some, app_lt (l := ([] : List Entry)) (m := h.entries) (b := 120) (by simp; omega) (by omega), List.nil_append]
          have hfin : ∀ es : List Entry, Eqv h.entries es → law27_JudgeMixed_j1 4000 (e, (judgeP h e).2, h.schema.tables, h.begun, es, ()) = some true := fun es hes => by
            unfold law27_JudgeMixed_j1
            have hh2 : SmallH ⟨⟨h.schema.tables⟩, h.begun, es⟩ := ⟨hh.tables, hh.begun, by rw [← hes.len]; exact hh.entries, fun x hx => hh.each x ((hes.mem x).2 hx)⟩
            simp only [judge_eq 4000 hn hh2 hs (fun x hx => hv x ((hes.mem x).2 hx)), Option.bind_some]
            have := judge_eqv (s := h.schema) (l := h.begun) hes e
            rw [show judgeP h e = judgeP ⟨h.schema, h.begun, h.entries⟩ e from rfl, this]
            simp
          show law27_JudgeMixed_l2 4000 (law27_JudgeMixed_j1 4000) 4000 (e, (judgeP h e).2, l, (l.length : Int), ((0 : Nat) : Int), h.schema.tables, h.begun, h.entries, ()) = some true
          unfold law27_JudgeMixed_l2
          refine loop_true (some true) l.length (fun (i : Nat) (es : List Entry) => (e, (judgeP h e).2, l, (l.length : Int), (i : Int), h.schema.tables, h.begun, es, ())) (fun _ es => Eqv h.entries es) (fun r i es hi hes => ?_) (fun r es hes => ?_) 4000 0 h.entries (Nat.zero_le _) (by omega) (Eqv.refl _)
          · simp only [lt_dec hi, cond_true, idx_nat, get_some hi, Option.bind_some]
            by_cases h2 : (es.length : Int) < 2
            · rw [decide_eq_true h2]
              exact .inl (hfin es hes)
            · rw [decide_eq_false h2]
              have hlen := hes.len
              have e1 : IntKind.wrap .u64 (IntKind.wrap .i64 ((es.length : Int) - 1)) = ((es.length - 1 : Nat) : Int) := by
                rw [IntKind.wrap_i64, IntKind.wrap_u64]; omega
              have hu := wrap_u64 l[i]
              obtain ⟨u, hu'⟩ := Int.eq_ofNat_of_zero_le hu
              rw [hu', e1]
              have hm : remP (u : Int) ((es.length - 1 : Nat) : Int) = some ((u % (es.length - 1) : Nat) : Int) := by
                unfold remP
                rw [if_pos (by omega)]
                simp [Int.tmod]
              have hz : u % (es.length - 1) < es.length - 1 := Nat.mod_lt _ (by omega)
              generalize u % (es.length - 1) = z at hm hz
              have e2 : IntKind.wrap .i64 (z : Int) = (z : Int) := by rw [IntKind.wrap_i64]; omega
              have ha := get_some (show z < es.length by omega)
              have hb := get_some (show z + 1 < es.length by omega)
              simp only [cond_false, hm, Option.bind_some, e2, wrap_succ (show z < 4611686018427387904 by omega), idx_nat, ha, hb, show ∀ x, law27_JudgeMixed_1 4000 x = some (x.request.kind == 11) from fun _ => rfl, jn, law27_JudgeMixed_j3, wrap_succ (show i < 4611686018427387904 by omega)]
              have hskip : r (e, (judgeP h e).2, l, (l.length : Int), ((i + 1 : Nat) : Int), h.schema.tables, h.begun, es, ()) = some true ∨ ∃ s', r (e, (judgeP h e).2, l, (l.length : Int), ((i + 1 : Nat) : Int), h.schema.tables, h.begun, es, ()) = r (e, (judgeP h e).2, l, (l.length : Int), ((i + 1 : Nat) : Int), h.schema.tables, h.begun, s', ()) ∧ Eqv h.entries s' := .inr ⟨es, rfl, hes⟩
              by_cases ht : es[z].txn = es[z + 1].txn
              · rw [show (es[z].txn != es[z + 1].txn) = false from by simpa using ht]
                exact hskip
              · rw [show (es[z].txn != es[z + 1].txn) = true from by simpa using ht]
                have hsw : ¬ (es[z].request.kind = 11 ∧ es[z + 1].request.kind = 11) → (put es (z : Int) es[z + 1]).bind (fun l42 => (l42[z + 1]?).bind fun x43 => (put l42 ((z + 1 : Nat) : Int) es[z]).bind fun l44 => r (e, (judgeP h e).2, l, (l.length : Int), ((i + 1 : Nat) : Int), h.schema.tables, h.begun, l44, ())) = r (e, (judgeP h e).2, l, (l.length : Int), ((i + 1 : Nat) : Int), h.schema.tables, h.begun, (es.set z es[z + 1]).set (z + 1) es[z], ()) ∧ Eqv h.entries ((es.set z es[z + 1]).set (z + 1) es[z]) := fun hk => by
                  refine ⟨?_, ?_⟩
                  · rw [put_ok (show z < es.length by omega), Option.bind_some, get_some (show z + 1 < (es.set z es[z + 1]).length by simp; omega), Option.bind_some, put_ok (show z + 1 < (es.set z es[z + 1]).length by simp; omega), Option.bind_some]
                  · obtain ⟨A, B, q1, q2⟩ := swap_list ha hb
                    rw [q2]
                    have := eqv_swap ht hk A B
                    rw [← q1] at this
                    exact hes.trans this
                by_cases k1 : es[z].request.kind = 11
                · by_cases k2 : es[z + 1].request.kind = 11
                  · rw [show (es[z].request.kind == 11) = true from by simpa using k1, show (es[z + 1].request.kind == 11) = true from by simpa using k2]
                    exact hskip
                  · rw [show (es[z].request.kind == 11) = true from by simpa using k1, show (es[z + 1].request.kind == 11) = false from by simpa using k2]
                    obtain ⟨g1, g2⟩ := hsw fun h => k2 h.2
                    exact .inr ⟨_, g1, g2⟩
                · rw [show (es[z].request.kind == 11) = false from by simpa using k1]
                  obtain ⟨g1, g2⟩ := hsw fun h => k1 h.1
                  exact .inr ⟨_, g1, g2⟩
          · simp only [ge_dec (Nat.lt_irrefl _), cond_false]
            exact hfin es hes
end Go.Proofs.Ytegnflodgnfffaa
