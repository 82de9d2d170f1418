/- Layer 15: what comes may be; the plain laws IdealKeeps, IdealBack. -/
import Derived.Test.YtegnflodgnfffaaIdealT
namespace Go.Proofs.Ytegnflodgnfffaa
open Go.Bur
set_option linter.unusedSimpArgs false
set_option linter.unusedVariables false
set_option maxRecDepth 100000

/-- A loop all of whose ways come to one answer. -/
theorem loop_true {T σ R : Type} {F : (T → Option R) → T → Option R} (v : Option R) (len : Nat) (mk : Nat → σ → T) (I : Nat → σ → Prop)
    (h : ∀ r i s, i < len → I i s → F r (mk i s) = v ∨ ∃ s', F r (mk i s) = r (mk (i + 1) s') ∧ I (i + 1) s') (hE : ∀ r s, I len s → F r (mk len s) = v) : ∀ m i s, i ≤ len → len - i < m → I i s → loopF F m (mk i s) = v := by
  intro m
  induction m with
  | zero => intro i s _ h; omega
  | succ m ih =>
    intro i s hi hm hs
    show F (loopF F m) (mk i s) = v
    by_cases hlt : i < len
    · rcases h (loopF F m) i s hlt hs with h1 | ⟨s', h1, h2⟩
      · exact h1
      · rw [h1]; exact ih (i + 1) s' (by omega) (by omega) h2
    · obtain rfl : i = len := by omega
      exact hE _ s hs
theorem rowErr_iff {s : Schema} {r : Row} : rowErr s r = 0 ↔ inTab s r.key = true ∧ (r.note.size : Int) ≤ 8 ∧ fitsP s r.key r.val = true := by
  unfold rowErr fitsP
  by_cases h : inTab s r.key = true
  · obtain ⟨x, hx⟩ := idx_in (inTab_iff.1 h)
    rw [if_pos h, hx]
    by_cases h1 : (r.note.size : Int) ≤ 8
    · rw [if_pos h1]
      cases hf : fitsB x r.val <;> simp [h, h1]
    · rw [if_neg h1]
      simp [h1]
  · rw [if_neg h]
    simp [h]
theorem good_put {s : Schema} {l : List Row} (hg : good s l) {r : Row} (hr : rowErr s r = 0) : good s (putK l r) := by
  obtain ⟨A, y, B, h⟩ := at_ex r.key hg.2
  rw [putK_at h]
  exact good_more h hg hr
theorem putK_len_in {l : List Row} (hs : Srt l) {r x : Row} (hx : getK l r.key = some x) : (putK l r).length = l.length := by
  rcases at_cases hs r.key with ⟨_, h2, _⟩ | ⟨A, y, B, h, h1, h2, _⟩
  · rw [h2] at hx; cases hx
  · rw [putK_at h, h.eq]; simp
theorem getK_mem {l : List Row} {k : Key} {r : Row} (h : getK l k = some r) : r ∈ l ∧ r.key = k := by
  unfold getK at h
  have := List.find?_some h
  exact ⟨List.mem_of_find?_eq_some h, by simpa using this⟩
theorem ok_put {s : Schema} {l : List Row} (h : listOk s l = true) {r x : Row} (hr : rowErr s r = 0) (hx : getK l r.key = some x) : listOk s (putK l r) = true := by
  obtain ⟨hg, hl⟩ := listOk_iff.1 h
  exact listOk_iff.2 ⟨good_put hg hr, by rw [putK_len_in hg.2 hx]; exact hl⟩
theorem ok_sub {s : Schema} {l m : List Row} (h : listOk s l = true) (hm : m.Sublist l) : listOk s m = true := by
  obtain ⟨hg, hl⟩ := listOk_iff.1 h
  exact listOk_iff.2 ⟨good_sub hg hm, by have := hm.length_le; omega⟩
theorem sumB_facts {s : Schema} {r : Row} {v : Int} (h : sumB s r v = true) : (plusP r.val v).1 = r.val + v ∧ i64 (r.val + v) ∧ fitsP s r.key (r.val + v) = true := by
  unfold sumB plusP at h
  unfold plusP
  split at h
  · rename_i hr
    rw [if_pos hr]
    simp only [Bool.true_and] at h
    exact ⟨rfl, hr, h⟩
  · simp at h
theorem ok_withV {s : Schema} {l : List Row} (h : listOk s l = true) {r : Row} {k : Key} (hr : getK l k = some r) {v : Int} (hf : fitsP s r.key v = true) : listOk s (putK l (withV r v)) = true := by
  obtain ⟨hm, hk⟩ := getK_mem hr
  have he := rowErr_iff.1 ((listOk_iff.1 h).1.1 r hm)
  exact ok_put h (x := r) (rowErr_iff.2 ⟨he.1, he.2.1, hf⟩) (by show getK l r.key = _; rw [hk]; exact hr)
/-- What is put does not turn what else stands there. -/
theorem getK_put {l : List Row} (hs : Srt l) {r x : Row} {k : Key} (hk : r.key ≠ k) (hx : getK l r.key = some x) : getK (putK l r) k = getK l k := by
  rcases at_cases hs r.key with ⟨_, h2, _⟩ | ⟨A, y, B, h, h1, h2, _⟩
  · rw [h2] at hx; cases hx
  · rw [putK_at h]
    conv => rhs; rw [h.eq]
    unfold getK
    have hy : y.key ≠ k := by rw [h.mid y rfl]; exact hk
    simp [List.find?_append, List.find?_cons, hk, hy]
theorem keep_do {s : Schema} {l : List Row} {q : Request} (h : Fit s l q) : listOk s (doP s l q).2 = true := by
  obtain ⟨k1, k2, k3, k4, k5, k6, _⟩ := reqOk_facts h.req
  obtain ⟨hg, hl⟩ := listOk_iff.1 h.list
  have hon : ∀ k f, (∀ r, getK l k = some r → listOk s (f r).2 = true) → listOk s (onRow l k f).2 = true := fun k f hf => by
    unfold onRow
    cases hr : getK l k with
    | none => exact h.list
    | some r => exact hf r hr
  unfold doP
  split
  · exact hon _ _ fun r _ => h.list
  split
  · exact h.list
  split
  · split
    · rename_i hf
      split
      · exact h.list
      · rename_i hn
        split
        · exact h.list
        · rename_i h60
          refine listOk_iff.2 ⟨good_put hg (rowErr_iff.2 ⟨k3, k5, hf⟩), ?_⟩
          have := putK_len l ⟨q.key, q.val, q.note⟩
          show (putK l ⟨q.key, q.val, q.note⟩).length ≤ 60
          omega
    · exact h.list
  split
  · exact hon _ _ fun r _ => ok_sub h.list List.filter_sublist
  split
  · refine hon _ _ fun r hr => ?_
    obtain ⟨hm, hk⟩ := getK_mem hr
    have he := rowErr_iff.1 (hg.1 r hm)
    exact ok_put h.list (x := r) (rowErr_iff.2 ⟨he.1, k5, he.2.2⟩) (by show getK l r.key = _; rw [hk]; exact hr)
  split
  · split
    · rename_i hf
      refine hon _ _ fun r hr => ok_withV h.list hr ?_
      rw [(getK_mem hr).2]; exact hf
    · exact h.list
  split
  · refine hon _ _ fun r hr => ?_
    split
    · rename_i hb
      obtain ⟨e1, e2, e3⟩ := sumB_facts hb
      refine ok_withV h.list hr ?_
      rw [e1]; exact e3
    · exact h.list
  · refine hon _ _ fun r hr => hon _ _ fun t ht => ?_
    split
    · rename_i hb
      rw [Bool.and_eq_true] at hb
      obtain ⟨e1, e2, e3⟩ := sumB_facts hb.1
      obtain ⟨f1, f2, f3⟩ := sumB_facts hb.2
      have e8 : q.kind = 8 := by have := h.kind; omega
      have h1 := ok_withV h.list ht (v := (plusP t.val q.val).1) (by rw [f1]; exact f3)
      have h2 : getK (putK l (withV t (plusP t.val q.val).1)) q.key = some r := by
        rw [getK_put hg.2 (r := withV t (plusP t.val q.val).1) (x := t) (k := q.key) (show t.key ≠ q.key by rw [(getK_mem ht).2]; exact fun e => (k6 e8).1 e.symm) (by show getK l t.key = _; rw [(getK_mem ht).2]; exact ht)]
        exact hr
      refine ok_withV h1 h2 ?_
      rw [e1]; exact e3
    · exact h.list
theorem do_err {s : Schema} {l : List Row} {q : Request} : ((doP s l q).1.n = 0 ∧ ((doP s l q).1.err ≠ 0 → (doP s l q).2 = l ∧ (doP s l q).1.rows = [])) := by
  have h0 : ∀ e, ((ansE e, l).1.n = 0 ∧ ((ansE e, l).1.err ≠ 0 → (ansE e, l).2 = l ∧ (ansE e, l).1.rows = [])) := fun e => ⟨rfl, fun _ => ⟨rfl, rfl⟩⟩
  have h1 : ∀ m, ((ansE 0, m).1.n = 0 ∧ ((ansE 0, m).1.err ≠ 0 → (ansE 0, m).2 = l ∧ (ansE 0, m).1.rows = [])) := fun m => ⟨rfl, fun h => absurd rfl h⟩
  have hon : ∀ k (f : Row → Answer × List Row), (∀ r, ((f r).1.n = 0 ∧ ((f r).1.err ≠ 0 → (f r).2 = l ∧ (f r).1.rows = []))) → ((onRow l k f).1.n = 0 ∧ ((onRow l k f).1.err ≠ 0 → (onRow l k f).2 = l ∧ (onRow l k f).1.rows = [])) := fun k f hf => by
    unfold onRow
    cases getK l k with
    | none => exact h0 4
    | some r => exact hf r
  unfold doP
  split
  · exact hon _ _ fun r => ⟨rfl, fun h => absurd rfl h⟩
  split
  · exact ⟨rfl, fun h => absurd rfl h⟩
  split
  · split
    · split
      · exact h0 5
      · split
        · exact h0 6
        · exact h1 _
    · exact h0 152
  split
  · exact hon _ _ fun r => h1 _
  split
  · exact hon _ _ fun r => h1 _
  split
  · split
    · exact hon _ _ fun r => h1 _
    · exact h0 152
  split
  · refine hon _ _ fun r => ?_
    split
    · exact h1 _
    · exact h0 152
  · refine hon _ _ fun r => hon _ _ fun t => ?_
    split
    · exact h1 _
    · exact h0 152
theorem do_reads {s : Schema} {l : List Row} {q : Request} (h : q.kind = 1 ∨ q.kind = 2) : (doP s l q).2 = l := by
  unfold doP
  rcases h with h | h
  · rw [if_pos h]
    unfold onRow
    cases getK l q.key <;> rfl
  · rw [if_neg (by omega), if_pos h]
theorem do_scan {s : Schema} {l : List Row} {q : Request} (h : q.kind = 2) : (doP s l q).1.rows = ofP q.key.table l := by
  unfold doP
  rw [if_neg (by omega), if_pos h]
/-- Bounds as they are handed over. -/
def SchIn (s : Schema) : Prop := ∀ b ∈ s.tables, i64 b.min ∧ i64 b.max
theorem good_i64 {s : Schema} {l : List Row} (hs : SchIn s) (hg : listOk s l = true) : ∀ r ∈ l, i64 r.val := fun r hr => by
  obtain ⟨h1, h2, h3⟩ := rowErr_iff.1 ((listOk_iff.1 hg).1.1 r hr)
  obtain ⟨x, hx⟩ := idx_in (inTab_iff.1 h1)
  unfold fitsP fitsB at h3
  rw [hx] at h3
  simp only [Bool.and_eq_true, decide_eq_true_iff] at h3
  obtain ⟨a, b⟩ := hs x (idx_some hx).2.2
  exact ⟨by have := a.1; omega, by have := b.2; omega⟩
theorem sch_in {s : Schema} (h : okT tab 9 (.st 1) s) : SchIn s := fun b hb => ⟨(h.1.1 b hb).1, (h.1.1 b hb).2.1⟩
theorem serOk_mk {x : Serial} (h1 : right x.schema = true) (h2 : listOk x.schema x.rows = true) (h3 : listOk x.schema x.begun = true) (h4 : ∀ l ∈ x.marks, listOk x.schema l = true) (h5 : x.marks.length ≤ 8) (h6 : x.over = true → x.marks = []) : serOk x = true := by
  unfold serOk
  rw [h1, h2, h3, List.all_eq_true.2 h4, decide_eq_true h5]
  cases ho : x.over with
  | false => rfl
  | true => rw [h6 ho]; rfl
theorem serOk_small {x : Serial} (h : serOk x = true) : SmallS x := by
  obtain ⟨f1, f2, f3, f4, f5, f6⟩ := serOk_facts h
  refine ⟨by have := schTab f1; omega, by have := (listOk_iff.1 f2).2; omega, by have := (listOk_iff.1 f3).2; omega, by omega, fun l hl => by have := (listOk_iff.1 (f4 l hl)).2; omega⟩
theorem keep_step {x : Serial} {q : Request} (h : serOk x = true) (hs : SchIn x.schema) (hv : i64 q.val) : serOk (stepAll x q).1 = true ∧ (stepAll x q).1.schema = x.schema ∧ (stepAll x q).1.begun = x.begun := by
  obtain ⟨f1, f2, f3, f4, f5, f6⟩ := serOk_facts h
  unfold stepAll
  rw [h]
  simp only [if_true]
  split
  · exact ⟨h, rfl, rfl⟩
  · rename_i hov
    split
    · rename_i hq
      obtain ⟨k1, k2, k3, k4, k5, k6, k7⟩ := reqOk_facts hq
      unfold stepP
      split
      · split
        · exact ⟨h, rfl, rfl⟩
        · refine ⟨serOk_mk f1 f2 f3 (fun l hl => ?_) (by simp; omega) (fun e => absurd e hov), rfl, rfl⟩
          rcases List.mem_append.1 hl with hl | hl
          · exact f4 l hl
          · simp at hl; subst hl; exact f2
      · split
        · split
          · exact ⟨h, rfl, rfl⟩
          · split
            · rename_i m hm
              exact ⟨serOk_mk f1 (f4 m (idx_some hm).2.2) f3 (fun l hl => f4 l (List.mem_of_mem_take hl)) (by simp; omega) (fun e => absurd e hov), rfl, rfl⟩
            · exact ⟨h, rfl, rfl⟩
        · split
          · exact ⟨serOk_mk f1 f2 f3 (by simp) (by simp) (fun _ => rfl), rfl, rfl⟩
          · split
            · exact ⟨serOk_mk f1 f3 f3 (by simp) (by simp) (fun _ => rfl), rfl, rfl⟩
            · exact ⟨serOk_mk f1 (keep_do ⟨f1, f2, hq, by omega, hv, good_i64 hs f2⟩) f3 f4 f5 (fun e => absurd e hov), rfl, rfl⟩
    · exact ⟨h, rfl, rfl⟩
theorem step_err {x : Serial} {q : Request} (h : serOk x = true) : ((stepAll x q).2.err ≠ 0 → (stepAll x q).1 = x ∧ (stepAll x q).2.n = 0 ∧ (stepAll x q).2.rows = []) ∧ (q.kind = 1 ∨ q.kind = 2 → (stepAll x q).1 = x) ∧ (x.over = true → (stepAll x q).2.err = 252) ∧ (q.kind = 2 → listOk x.schema (stepAll x q).2.rows = true) := by
  obtain ⟨f1, f2, f3, f4, f5, f6⟩ := serOk_facts h
  have h0 : ∀ e, listOk x.schema (ansE e).rows = true := fun e => ok_sub f2 (List.nil_sublist _)
  unfold stepAll
  rw [h]
  simp only [if_true]
  split
  · rename_i ho
    exact ⟨fun _ => ⟨rfl, rfl, rfl⟩, fun _ => rfl, fun _ => rfl, fun _ => h0 _⟩
  · rename_i ho
    split
    · refine ⟨?_, ?_, fun e => absurd e ho, ?_⟩
      · unfold stepP
        split
        · split
          · exact fun _ => ⟨rfl, rfl, rfl⟩
          · exact fun e => absurd rfl e
        · split
          · split
            · exact fun _ => ⟨rfl, rfl, rfl⟩
            · split
              · exact fun e => absurd rfl e
              · exact fun _ => ⟨rfl, rfl, rfl⟩
          · split
            · exact fun e => absurd rfl e
            · split
              · exact fun e => absurd rfl e
              · intro e
                obtain ⟨d1, d2⟩ := do_err (s := x.schema) (l := x.rows) (q := q)
                obtain ⟨d3, d4⟩ := d2 e
                exact ⟨by show withR x (doP x.schema x.rows q).2 = x; rw [d3]; rfl, d1, d4⟩
      · intro hk
        rw [stepP_low (by omega)]
        show withR x (doP x.schema x.rows q).2 = x
        rw [do_reads hk]; rfl
      · intro hk
        rw [stepP_low (by omega)]
        show listOk x.schema (doP x.schema x.rows q).1.rows = true
        rw [do_scan hk]
        exact ok_sub f2 List.filter_sublist
    · exact ⟨fun _ => ⟨rfl, rfl, rfl⟩, fun _ => rfl, fun e => absurd e ho, fun _ => h0 _⟩
end Go.Proofs.Ytegnflodgnfffaa
