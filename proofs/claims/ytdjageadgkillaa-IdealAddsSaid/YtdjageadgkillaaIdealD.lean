/- Layer 15: the plain law IdealDoes. -/
import Derived.Test.YtdjageadgkillaaIdealP
namespace Go.Proofs.Ytdjageadgkillaa
open Go.Bur
set_option linter.unusedSimpArgs false
set_option linter.unusedVariables false
set_option maxRecDepth 100000

theorem rfits_eq (n : Nat) (s : Schema) (k : Key) (v : Int) (h : inTab s k = true) : ref15_Fits n s k v = some (fitsP s k v) := by
  obtain ⟨y, hy⟩ := idx_in (inTab_iff.1 h)
  unfold ref15_Fits fitsP fitsB
  simp only [hy, Option.bind_some, jn]
  cases decide (v ≥ y.min) <;> rfl
theorem rplusR_eq (n : Nat) (s : Schema) (r : Row) (v : Int) (h : inTab s r.key = true) (h1 : i64 r.val) (h2 : i64 v) : ref15_plus n s r v = some (withV r (plusP r.val v).1, sumB s r v) := by
  unfold ref15_plus sumB
  simp only [rplus_eq n h1 h2, Option.bind_some, jn, rfits_eq n s r.key _ h]
  cases (plusP r.val v).2 <;> rfl
theorem putK_len (l : List Row) (r : Row) : (putK l r).length ≤ l.length + 1 := by
  unfold putK
  rw [insP_len]
  exact Nat.add_le_add_right (List.length_filter_le _ _) 1
theorem neg_wrap {v : Int} (h : i64 v) (h0 : 0 ≤ v) : IntKind.wrap .i64 (0 - v) = -v ∧ i64 (-v) := by
  obtain ⟨h1, h2⟩ := h
  refine ⟨?_, ⟨by omega, by omega⟩⟩
  rw [wrap_in (by omega)]; omega
theorem rdo_eq (n : Nat) (hn : 1003 ≤ n) {s : Schema} {l : List Row} {q : Request} (h : Fit s l q) : ref15_Do n s l q = some ((doP s l q).2, (doP s l q).1) := by
  obtain ⟨hg, hl⟩ := listOk_iff.1 h.list
  obtain ⟨k1, k2, k3, k4, k5, k6, _⟩ := reqOk_facts h.req
  have hl' : l.length ≤ 1000 := by omega
  have hkk := h.kind
  have hw : ∀ r, ref05_With n l r = some (putK l r) := fun r => with_eq n hn l (by omega) r
  have h60 : decide ((l.length : Int) ≥ 60) = decide (l.length = 60) := by
    by_cases e : l.length = 60
    · rw [decide_eq_true e, decide_eq_true (by omega)]
    · rw [decide_eq_false e, decide_eq_false (by omega)]
  unfold ref15_Do doP
  rw [rfind_eq n hn l hl']
  unfold ref15_refused
  simp only [Option.bind_some, ibeq q.kind, jn, rfits_eq n s q.key _ k3, h60]
  by_cases e1 : q.kind = 1
  · simp only [e1]
    unfold onRow
    rcases at_cases hg.2 q.key with ⟨h1, h2, _⟩ | ⟨A, r, B, h3, h1, h2, h4, h5, h6, h7⟩
    · rw [h1, h2]; rfl
    · have hneg : decide (ixI (some A.length) < 0) = false := decide_eq_false (by simp only [ixI]; omega)
      rw [h1, h2, hneg]
      simp [ref15_refused_j1, ref15_refused_j2, jn, ixI, h6, e1]
  by_cases e2 : q.kind = 2
  · simp only [e2]
    simp [rof_eq n hn l hl']
  by_cases e3 : q.kind = 3
  · simp only [e3]
    cases hf : fitsP s q.key q.val with
    | false => rfl
    | true =>
      rcases at_cases hg.2 q.key with ⟨h1, h2, _⟩ | ⟨A, r, B, h3, h1, h2, h4, h5, h6, h7⟩
      · rw [h1, h2]
        by_cases e : l.length = 60
        · simp [ixI, e, ansE]
        · simp [ixI, e, ansE, hw]
      · have hneg : decide (ixI (some A.length) ≥ 0) = true := decide_eq_true (by simp only [ixI]; omega)
        rw [h1, h2, hneg]; rfl
  by_cases e4 : q.kind = 4
  · simp only [e4]
    unfold onRow
    rcases at_cases hg.2 q.key with ⟨h1, h2, _⟩ | ⟨A, r, B, h3, h1, h2, h4, h5, h6, h7⟩
    · rw [h1, h2]; rfl
    · have hneg : decide (ixI (some A.length) < 0) = false := decide_eq_false (by simp only [ixI]; omega)
      rw [h1, h2, hneg]
      simp [ref15_refused_j1, ref15_refused_j2, jn, e4, without_eq n hn l hl', ansE, delK]
  by_cases e5 : q.kind = 5
  · simp only [e5]
    unfold onRow
    rcases at_cases hg.2 q.key with ⟨h1, h2, _⟩ | ⟨A, r, B, h3, h1, h2, h4, h5, h6, h7⟩
    · rw [h1, h2]; rfl
    · have hneg : decide (ixI (some A.length) < 0) = false := decide_eq_false (by simp only [ixI]; omega)
      rw [h1, h2, hneg]
      simp [ref15_refused_j1, ref15_refused_j2, ref15_Do_j1, jn, e5, ixI, h6, hw, ansE]
  by_cases e6 : q.kind = 6
  · simp only [e6]
    cases hf : fitsP s q.key q.val with
    | false => rfl
    | true =>
      unfold onRow
      rcases at_cases hg.2 q.key with ⟨h1, h2, _⟩ | ⟨A, r, B, h3, h1, h2, h4, h5, h6, h7⟩
      · rw [h1, h2]; rfl
      · have hneg : decide (ixI (some A.length) < 0) = false := decide_eq_false (by simp only [ixI]; omega)
        rw [h1, h2, hneg]
        simp [ref15_refused_j1, ref15_refused_j2, ref15_Do_j1, ref15_Do_j2, jn, e6, ixI, h6, hw, ansE, withV]
  by_cases e7 : q.kind = 7
  · simp only [e7]
    unfold onRow
    rcases at_cases hg.2 q.key with ⟨h1, h2, _⟩ | ⟨A, r, B, h3, h1, h2, h4, h5, h6, h7⟩
    · rw [h1, h2]; rfl
    · have hneg : decide (ixI (some A.length) < 0) = false := decide_eq_false (by simp only [ixI]; omega)
      have hp := rplusR_eq n s r q.val (rowErr_key (hg.1 r h5)) (h.rows r h5) h.val
      rw [h1, h2, hneg]
      cases hb : sumB s r q.val with
      | false => simp [ref15_refused_j1, ref15_refused_j2, jn, e7, ixI, h6, hp, hb, ansE]
      | true => simp [ref15_refused_j1, ref15_refused_j2, ref15_Do_j1, ref15_Do_j2, ref15_Do_j3, jn, e7, ixI, h6, hp, hb, hw, ansE]
  have e8 : q.kind = 8 := by omega
  obtain ⟨hne, hv0⟩ := k6 e8
  obtain ⟨hnw, hnv⟩ := neg_wrap h.val hv0
  have hnw2 : IntKind.wrap .i64 (-q.val) = -q.val := wrap_in hnv
  simp only [e8]
  unfold onRow
  rcases at_cases hg.2 q.key with ⟨h1, h2, _⟩ | ⟨A, r, B, h3, h1, h2, h4, h5, h6, h7⟩
  · rw [h1, h2]; rfl
  · have hneg : decide (ixI (some A.length) < 0) = false := decide_eq_false (by simp only [ixI]; omega)
    have hp := rplusR_eq n s r (-q.val) (rowErr_key (hg.1 r h5)) (h.rows r h5) hnv
    rw [h1, h2, hneg]
    rcases at_cases hg.2 q.to with ⟨g1, g2, _⟩ | ⟨A2, t, B2, g3, g1, g2, g4, g5, g6, g7⟩
    · rw [g2]
      simp [ref15_refused_j1, ref15_refused_j2, jn, e8, ixI, h6, hp, ansE, rfind_eq n hn l hl', g1]
    · have hp2 := rplusR_eq n s t q.val (rowErr_key (hg.1 t g5)) (h.rows t g5) h.val
      have hneg2 : ¬ ((A2.length : Int) < 0) := by omega
      have hw2 : ref05_With n (putK l (withV t (plusP t.val q.val).1)) (withV r (plusP r.val (-q.val)).1) = some (putK (putK l (withV t (plusP t.val q.val).1)) (withV r (plusP r.val (-q.val)).1)) := with_eq n hn _ (by have := putK_len l (withV t (plusP t.val q.val).1); omega) _
      rw [g2]
      cases hb : sumB s r (-q.val) with
      | false => simp [ref15_refused_j1, ref15_refused_j2, jn, e8, ixI, h6, hp, hb, ansE, rfind_eq n hn l hl', g1, g6, hp2, hnw, hnw2, hneg2]
      | true =>
        cases hb2 : sumB s t q.val with
        | false => simp [ref15_refused_j1, ref15_refused_j2, jn, e8, ixI, h6, hp, hb, hb2, ansE, rfind_eq n hn l hl', g1, g6, hp2, hnw, hnw2, hneg2]
        | true => simp [ref15_refused_j1, ref15_refused_j2, ref15_Do_j1, ref15_Do_j2, ref15_Do_j3, ref15_Do_j4, jn, e8, ixI, h6, hp, hb, hb2, ansE, rfind_eq n hn l hl', g1, g6, hp2, hnw, hnw2, hneg2, hw, hw2]
/-- What the program's Do answers. -/
def doAll (s : Schema) (l : List Row) (q : Request) : Answer × List Row :=
  if right s then (if listOk s l then (if reqOk s q && decide (q.kind ≤ 8) then doP s l q else (ansE 250, l)) else (ansE 151, l)) else (ansE 150, l)
theorem do_eq (n : Nat) (hn : 1003 ≤ n) {s : Schema} {l : List Row} {q : Request} (hs : s.tables.length ≤ 1000) (hl : l.length ≤ 1000) (hv : i64 q.val) (hi : ∀ r ∈ l, i64 r.val) : ideal_Do n s l q = some (doAll s l q) := by
  unfold ideal_Do ideal_Do_j1 ideal_Do_j2 doAll
  rw [checkList_eq n hn s hs l hl]
  cases hr : right s with
  | false => simp [jn, clone_ok n l hl, ansE]
  | true =>
    cases hg : listOk s l with
    | false => simp [jn, clone_ok n l hl, ansE]
    | true =>
      cases hq : reqOk s q with
      | false => simp [jn, clone_ok n l hl, ansE, checkReq_eq n hn s hs, hr, hq]
      | true =>
        by_cases hk : q.kind ≤ 8
        · have hk' : decide (q.kind > 8) = false := decide_eq_false (by omega)
          have hd := does_eq n hn (s := s) (l := l) (q := q) ⟨hr, hg, hq, hk, hv, hi⟩
          simp only [jn, if_true, Option.bind_some, show ((0 : Int) == 0) = true from by decide, cond_true, cond_false, checkReq_eq n hn s hs, hr, hq, hk', show ((0 : Int) != 0) = false from by decide, hd, decide_eq_true hk, Bool.and_self]
        · have hk' : decide (q.kind > 8) = true := decide_eq_true (by omega)
          simp [jn, clone_ok n l hl, ansE, checkReq_eq n hn s hs, hr, hq, hk', hk]
theorem ofP_len (t : Int) (l : List Row) : (ofP t l).length ≤ l.length := List.length_filter_le _ _
def LenOk (l : List Row) (y : Answer × List Row) : Prop := y.2.length ≤ l.length + 2 ∧ y.1.rows.length ≤ l.length + 1
theorem doP_len (s : Schema) (l : List Row) (q : Request) : LenOk l (doP s l q) := by
  have h0 : ∀ e, LenOk l (ansE e, l) := fun e => ⟨by simp, by simp [ansE]⟩
  have hp : ∀ r, LenOk l (ansE 0, putK l r) := fun r => ⟨by have := putK_len l r; show (putK l r).length ≤ _; omega, by simp [ansE]⟩
  have hp2 : ∀ r t, LenOk l (ansE 0, putK (putK l r) t) := fun r t => ⟨by have := putK_len l r; have := putK_len (putK l r) t; show (putK (putK l r) t).length ≤ _; omega, by simp [ansE]⟩
  have hon : ∀ k f, (∀ r, LenOk l (f r)) → LenOk l (onRow l k f) := fun k f hf => by
    unfold onRow
    cases getK l k with
    | none => exact h0 4
    | some r => exact hf r
  unfold doP
  split
  · exact hon _ _ fun r => ⟨by simp, by simp⟩
  split
  · exact ⟨by simp, by have := ofP_len q.key.table l; show (ofP q.key.table l).length ≤ _; omega⟩
  split
  · split
    · split
      · exact h0 5
      · split
        · exact h0 6
        · exact hp _
    · exact h0 152
  split
  · exact hon _ _ fun r => ⟨by have : (delK l q.key).length ≤ l.length := List.length_filter_le _ _; show (delK l q.key).length ≤ _; omega, by simp [ansE]⟩
  split
  · exact hon _ _ fun r => hp _
  split
  · split
    · exact hon _ _ fun r => hp _
    · exact h0 152
  split
  · refine hon _ _ fun r => ?_
    split
    · exact hp _
    · exact h0 152
  · refine hon _ _ fun r => hon _ _ fun t => ?_
    split
    · exact hp2 _ _
    · exact h0 152
theorem rows_i64 {l : List Row} (h : okT tab 9 (.sl (.st 3)) l) : ∀ r ∈ l, i64 r.val := fun r hr => (h.1 r hr).2.2.1
theorem req_i64 {q : Request} (h : okT tab 9 (.st 4) q) : i64 q.val := h.2.2.2.2.2.1
theorem plainIdealDoes (s : Schema) (l : List Row) (q : Request) (h1 : okT tab 9 (.st 1) s) (h2 : okT tab 9 (.sl (.st 3)) l) (h3 : okT tab 9 (.st 4) q) : ∃ n, law15_IdealDoes n s l q = some true := by
  refine ⟨2000, ?_⟩
  have hn : 1003 ≤ 2000 := by decide
  have hi := rows_i64 h2
  have hv := req_i64 h3
  unfold law15_IdealDoes
  rw [wakes]
  simp only [Option.bind_some, Bool.not_true, cond_false, over_eq 2000 hn, jn]
  cases ho : overP s l with
  | true => rfl
  | false =>
    obtain ⟨hs, hl⟩ := overP_len ho
    simp only [cond_false]
    cases decide ((q.note.size : Int) > 100) with
    | true => rfl
    | false =>
      have happ : app 40 ([] : List Row) l = some l := by rw [app_lt (by simp; omega) (by decide)]; rfl
      have e1 : ∀ x : Int, (x != x) = false := by intro x; simp
      have hsr : ∀ a : List Row, a.length ≤ 1000 → ref05_Same 2000 a a = some true := fun a ha => by rw [rsame_eq 2000 hn a a ha, rowsSame_refl]
      have hsa : ∀ a : Answer, a.rows.length ≤ 1000 → ref15_SameAnswer 2000 a a = some true := fun a ha => by rw [rsameAns_eq 2000 hn a a ha, ansSame_refl]
      have hae : ∀ e, ref15_SameAnswer 2000 (ansE e) (Answer.mk e ([] : List Row) 0) = some true := fun e => hsa (ansE e) (by simp [ansE])
      simp only [cond_false, happ, Option.bind_some, do_eq 2000 hn (s := s) (l := l) (q := q) (by omega) (by omega) hv hi, checkReq_eq 2000 hn s (by omega), hsr l (by omega), Bool.not_true, right_eq 2000 hn s (by omega)]
      unfold doAll law15_IdealDoes_j1 law15_IdealDoes_j3 law15_IdealDoes_j4 law15_IdealDoes_j2
      simp only [right_eq 2000 hn s (show s.tables.length ≤ 1000 by omega), rightList_eq 2000 hn s l (show l.length ≤ 1000 by omega), jn, Option.bind_some]
      cases hr : right s with
      | false => simp [hsr l (by omega), hae]
      | true =>
        simp only [rightReq_eq 2000 s hr q, Option.bind_some]
        cases hg : listOk s l with
        | false => cases hq : reqOk s q <;> (by_cases hk : q.kind ≤ 8) <;> (by_cases hk' : q.kind > 8) <;> simp [hsr l (by omega), hae, hk, hk']
        | true =>
          cases hq : reqOk s q with
          | false => simp [hsr l (by omega), hae]
          | true =>
            by_cases hk : q.kind ≤ 8
            · have hk' : decide (q.kind > 8) = false := decide_eq_false (by omega)
              have hd := rdo_eq 2000 hn (s := s) (l := l) (q := q) ⟨hr, hg, hq, hk, hv, hi⟩
              obtain ⟨l1, l2⟩ := doP_len s l q
              simp only [hk', decide_eq_true hk, Bool.and_self, if_true, Bool.not_true, cond_false, e1, show ((0 : Int) != 0) = false from rfl, hd, Option.bind_some, hsr (doP s l q).2 (by omega), cond_true, hsa (doP s l q).1 (by omega)]
            · have hk' : decide (q.kind > 8) = true := decide_eq_true (by omega)
              simp [hk', hk, hsr l (by omega), hae]
end Go.Proofs.Ytdjageadgkillaa
