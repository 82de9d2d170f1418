/- Layer 15: what requests come to. -/
import Derived.Test.YtegnflodgnfffaaIdealS
namespace Go.Proofs.Ytegnflodgnfffaa
open Go.Bur
set_option linter.unusedSimpArgs false
set_option linter.unusedVariables false
set_option maxRecDepth 100000

/-! ### Requests -/
def key0 : Key := ⟨0, 0⟩
def req0 : Request := ⟨0, key0, key0, 0, ByteArray.empty, 0⟩
def bareP (q : Request) : Request :=
  if q.kind = 1 ∨ q.kind = 4 then ⟨0, key0, q.to, q.val, q.note, q.n⟩
  else if q.kind = 2 then ⟨0, ⟨0, q.key.id⟩, q.to, q.val, q.note, q.n⟩
  else if q.kind = 3 then ⟨0, key0, q.to, 0, ByteArray.empty, q.n⟩
  else if q.kind = 5 then ⟨0, key0, q.to, q.val, ByteArray.empty, q.n⟩
  else if q.kind = 6 ∨ q.kind = 7 then ⟨0, key0, q.to, 0, q.note, q.n⟩
  else if q.kind = 8 then ⟨0, key0, key0, 0, q.note, q.n⟩
  else if q.kind = 10 then ⟨0, q.key, q.to, q.val, q.note, 0⟩
  else ⟨0, q.key, q.to, q.val, q.note, q.n⟩
theorem bare_eq (n : Nat) (q : Request) : ideal_bare n q = some (bareP q) := by
  unfold ideal_bare ideal_bare_j1 ideal_bare_j2 ideal_bare_j3 ideal_bare_j4 ideal_bare_j5 ideal_bare_j6 ideal_bare_j7 ideal_bare_j8 ideal_bare_j9 bareP
  simp only [jn, ibeq]
  have hE : ByteArray.mk #[] = ByteArray.empty := rfl
  rw [hE]
  by_cases h1 : q.kind = 1
  · simp [h1, key0]
  · by_cases h4 : q.kind = 4
    · simp [h4, key0]
    · by_cases h2 : q.kind = 2
      · simp [h2]
      · by_cases h3 : q.kind = 3
        · simp [h3, key0]
        · by_cases h5 : q.kind = 5
          · simp [h5, key0]
          · by_cases h6 : q.kind = 6
            · simp [h6, key0]
            · by_cases h7 : q.kind = 7
              · simp [h7, key0]
              · by_cases h8 : q.kind = 8
                · simp [h8, key0]
                · by_cases h10 : q.kind = 10
                  · simp [h10]
                  · simp [h1, h2, h3, h4, h5, h6, h7, h8, h10]
def moreOk (q : Request) : Bool := if q.kind = 8 then !Key.eqb q.key q.to && decide (q.val ≥ 0) else if q.kind = 10 then decide (q.n ≥ 1) else true
def reqOk (s : Schema) (q : Request) : Bool := (((((decide (q.kind ≥ 1) && decide (q.kind ≤ 12)) && Request.eqb (bareP q) req0) && decide ((q.note.size : Int) ≤ 8)) && inTab s q.key) && inTab s q.to) && moreOk q
theorem keyErr_beq (s : Schema) (k : Key) : (keyErr s k == 0) = inTab s k := by
  unfold keyErr
  cases inTab s k <;> rfl
theorem checkReq_eq (n : Nat) (hn : 1003 ≤ n) (s : Schema) (hs : s.tables.length ≤ 1000) (q : Request) : ideal_CheckRequest n s q = some (if right s then (if reqOk s q then 0 else 250) else 150) := by
  unfold ideal_CheckRequest reqOk moreOk
  rw [check_eq n hn s hs]
  cases hr : right s with
  | false => rfl
  | true =>
    simp only [if_true, Option.bind_some, show ((0 : Int) != 0) = false from by decide, cond_false, jn, bare_eq, checkKey_eq n hn s hs, hr, keyErr_beq, ideal_CheckRequest_j1, ideal_CheckRequest_j2, ibeq q.kind, show Request.mk 0 (Key.mk 0 0) (Key.mk 0 0) 0 ByteArray.empty 0 = req0 from rfl]
    cases decide (q.kind ≥ 1) <;> cases decide (q.kind ≤ 12) <;> cases Request.eqb (bareP q) req0 <;> cases decide ((q.note.size : Int) ≤ 8) <;> cases inTab s q.key <;> cases inTab s q.to <;> (by_cases h8 : q.kind = 8 <;> by_cases h10 : q.kind = 10 <;> cases Key.eqb q.key q.to <;> cases decide (q.val ≥ 0) <;> cases decide (q.n ≥ 1) <;> simp [h8, h10])
theorem inTab0 {s : Schema} (h : right s = true) : inTab s key0 = true := by
  unfold right at h
  simp only [Bool.and_eq_true, decide_eq_true_iff] at h
  refine inTab_iff.2 ⟨Int.le_refl _, ?_⟩
  show (0 : Int) < _
  omega
theorem condS (a b : Bool) : cond a (some b) (some false) = some (a && b) := by cases a <;> rfl
theorem condN (a b : Bool) : cond a (some false) (some b) = some (!a && b) := by cases a <;> rfl
theorem emptyB {b : ByteArray} (h : b.toList = ByteArray.empty.toList) : b = ByteArray.empty := by
  rw [ByteArray.toList_eq, ByteArray.toList_eq] at h
  exact Go.WideShapes.bytes_inj h
/-- What the document says of requests, kind by kind. -/
theorem rightReq_eq (n : Nat) (s : Schema) (hr : right s = true) (q : Request) : ref15_RightRequest n s q = some (reqOk s q) := by
  have h0 := inTab0 hr
  have hz : ∀ k : Key, k.table = 0 → k.id = 0 → inTab s k = true := fun k h1 h2 => by
    obtain ⟨a, b⟩ := k
    simp only at h1 h2
    subst h1 h2
    exact h0
  have hsz : ∀ b : ByteArray, b.toList = ByteArray.empty.toList → (b.size : Int) ≤ 8 := fun b hb => by
    have := emptyB hb
    rw [this]; decide
  obtain ⟨kind, key, to, val, note, m⟩ := q
  by_cases hk : kind = 1 ∨ kind = 2 ∨ kind = 3 ∨ kind = 4 ∨ kind = 5 ∨ kind = 6 ∨ kind = 7 ∨ kind = 8 ∨ kind = 9 ∨ kind = 10 ∨ kind = 11 ∨ kind = 12
  · have key' : ∀ b : Bool, (b = true ↔ reqOk s ⟨kind, key, to, val, note, m⟩ = true) → some b = some (reqOk s ⟨kind, key, to, val, note, m⟩) := fun b hb => by rw [Bool.eq_iff_iff.2 hb]
    rcases hk with rfl | rfl | rfl | rfl | rfl | rfl | rfl | rfl | rfl | rfl | rfl | rfl
    all_goals
      unfold ref15_RightRequest ref15_RightRequest_j1 ref15_RightRequest_j2 ref15_RightRequest_j3 ref15_RightRequest_j4 ref15_RightRequest_j5 ref15_RightRequest_j6 ref15_RightRequest_j7 ref15_RightRequest_j8 ref15_RightRequest_j9
      simp only [jn, keyError_eq, Option.bind_some, keyErr_beq, bne, Int.reduceBEq, cond_true, cond_false, condS, condN]
      refine key' _ ?_
      simp [reqOk, moreOk, bareP, req0, key0, Request.eqb, Bool.cond_eq_ite]
      try (intro hm)
      try (constructor <;> intro h <;> simp_all)
  · have h1 : reqOk s ⟨kind, key, to, val, note, m⟩ = false := by
      unfold reqOk
      by_cases a : kind ≥ 1
      · by_cases b : kind ≤ 12
        · omega
        · simp [b]
      · simp [a]
    rw [h1]
    simp only [not_or] at hk
    unfold ref15_RightRequest ref15_RightRequest_j1 ref15_RightRequest_j2 ref15_RightRequest_j3 ref15_RightRequest_j4 ref15_RightRequest_j5 ref15_RightRequest_j6 ref15_RightRequest_j7 ref15_RightRequest_j8 ref15_RightRequest_j9
    simp [jn, ibeq, hk]

/-! ### Rows by their keys -/
def getK (l : List Row) (k : Key) : Option Row := l.find? fun r => decide (r.key = k)
def putK (l : List Row) (r : Row) : List Row := insP r (l.filter fun x => !Key.eqb x.key r.key)
def delK (l : List Row) (k : Key) : List Row := l.filter fun x => !Key.eqb x.key k
abbrev Srt (l : List Row) : Prop := l.Pairwise (fun a b => cmpK a.key b.key < 0)
theorem getK_at {l : List Row} {k : Key} {A B : List Row} {y : Option Row} (h : At l k A y B) : getK l k = y := by
  unfold getK
  have hA : ∀ x ∈ A, decide (x.key = k) = false := fun x hx => decide_eq_false fun e => by have := h.lo x hx; rw [cmpK_zero.2 e] at this; omega
  have hB : ∀ x ∈ B, decide (x.key = k) = false := fun x hx => decide_eq_false fun e => by have := h.hi x hx; rw [e, cmpK_zero.2 rfl] at this; omega
  have nA : A.find? (fun r => decide (r.key = k)) = none := List.find?_eq_none.2 fun x hx => by simpa using hA x hx
  have nB : B.find? (fun r => decide (r.key = k)) = none := List.find?_eq_none.2 fun x hx => by simpa using hB x hx
  rw [h.eq, List.find?_append, nA, List.find?_append, nB]
  cases y with
  | none => rfl
  | some r => simp [h.mid r rfl]
theorem delK_at {l : List Row} {k : Key} {A B : List Row} {y : Option Row} (h : At l k A y B) : delK l k = A ++ B := filt_at h
theorem putK_at {l : List Row} {r : Row} {A B : List Row} {y : Option Row} (h : At l r.key A y B) : putK l r = A ++ r :: B := by
  unfold putK
  rw [filt_at h, insP_at r A B h.lo h.hi]
theorem srt_less {l : List Row} {k : Key} {A B : List Row} {y : Option Row} (h : At l k A y B) (hs : Srt l) : Srt (A ++ B) := by
  refine hs.sublist ?_
  rw [h.eq]
  exact List.Sublist.append (List.Sublist.refl _) (List.sublist_append_right _ _)
theorem srt_more {l : List Row} {r : Row} {A B : List Row} {y : Option Row} (h : At l r.key A y B) (hs : Srt l) : Srt (A ++ r :: B) := by
  have h1 := srt_less h hs
  have h2 := List.pairwise_append.1 h1
  show List.Pairwise _ _
  rw [List.pairwise_append]
  refine ⟨h2.1, List.pairwise_cons.2 ⟨h.hi, h2.2.1⟩, fun a ha b hb => ?_⟩
  rcases List.mem_cons.1 hb with rfl | hb
  · exact h.lo a ha
  · exact h2.2.2 a ha b hb
theorem srt_put {l : List Row} (hs : Srt l) (r : Row) : Srt (putK l r) := by
  obtain ⟨A, y, B, h⟩ := at_ex r.key hs
  rw [putK_at h]
  exact srt_more h hs
theorem srt_del {l : List Row} (hs : Srt l) (k : Key) : Srt (delK l k) := hs.filter _
/-- Where a key is. -/
theorem at_cases {l : List Row} (hs : Srt l) (k : Key) : (at_ l k = none ∧ getK l k = none ∧ ∃ A B, At l k A none B) ∨ ∃ A r B, At l k A (some r) B ∧ at_ l k = some A.length ∧ getK l k = some r ∧ r.key = k ∧ r ∈ l ∧ idx l (A.length : Int) = some r ∧ A.length < l.length := by
  obtain ⟨A, y, B, h⟩ := at_ex k hs
  have h1 := at_at h
  have h2 := getK_at h
  cases y with
  | none => exact .inl ⟨h1, h2, A, B, h⟩
  | some r =>
    have := at_len h
    exact .inr ⟨A, r, B, h, h1, h2, h.mid r rfl, by rw [h.eq]; simp, at_idx h, by simp at this; omega⟩
theorem set_at {l : List Row} {r x : Row} {A B : List Row} (h : At l r.key A (some x) B) : l.set A.length r = putK l r := by
  rw [putK_at h, h.eq]
  simp
theorem put_at {l : List Row} {r x : Row} {A B : List Row} (h : At l r.key A (some x) B) : put l (A.length : Int) r = some (putK l r) := by
  have := at_len h
  rw [put_ok (by simp at this; omega), set_at h]

/-! ### What a request comes to -/
def ansE (e : Int) : Answer := ⟨e, [], 0⟩
def fitsP (s : Schema) (k : Key) (v : Int) : Bool := match idx s.tables k.table with
  | some b => fitsB b v
  | none => false
def sumB (s : Schema) (r : Row) (v : Int) : Bool := (plusP r.val v).2 && fitsP s r.key (plusP r.val v).1
def onRow (l : List Row) (k : Key) (f : Row → Answer × List Row) : Answer × List Row := match getK l k with
  | none => (ansE 4, l)
  | some r => f r
def withV (r : Row) (v : Int) : Row := ⟨r.key, v, r.note⟩
def doP (s : Schema) (l : List Row) (q : Request) : Answer × List Row :=
  if q.kind = 1 then onRow l q.key fun r => (⟨0, [r], 0⟩, l)
  else if q.kind = 2 then (⟨0, ofP q.key.table l, 0⟩, l)
  else if q.kind = 3 then (if fitsP s q.key q.val then (match getK l q.key with | some _ => (ansE 5, l) | none => if l.length = 60 then (ansE 6, l) else (ansE 0, putK l ⟨q.key, q.val, q.note⟩)) else (ansE 152, l))
  else if q.kind = 4 then onRow l q.key fun _ => (ansE 0, delK l q.key)
  else if q.kind = 5 then onRow l q.key fun r => (ansE 0, putK l ⟨r.key, r.val, q.note⟩)
  else if q.kind = 6 then (if fitsP s q.key q.val then onRow l q.key fun r => (ansE 0, putK l (withV r q.val)) else (ansE 152, l))
  else if q.kind = 7 then onRow l q.key fun r => if sumB s r q.val then (ansE 0, putK l (withV r (plusP r.val q.val).1)) else (ansE 152, l)
  else onRow l q.key fun r => onRow l q.to fun t => if sumB s r (-q.val) && sumB s t q.val then (ansE 0, putK (putK l (withV t (plusP t.val q.val).1)) (withV r (plusP r.val (-q.val)).1)) else (ansE 152, l)
section
variable (n : Nat) (hn : 1003 ≤ n) (T : List Bounds) (k a b c d : Int) (v : Int) (note : ByteArray) (m : Int) (l : List Row)
theorem t_fits (kk : Key) (x : Int) (h : inTab ⟨T⟩ kk = true) : ideal_turn_fits n kk x T k a b c d v note m l = some (fitsP ⟨T⟩ kk x, T, k, a, b, c, d, v, note, m, l) := by
  obtain ⟨y, hy⟩ := idx_in (inTab_iff.1 h)
  have hy : idx T kk.table = some y := hy
  unfold ideal_turn_fits fitsP fitsB
  simp only [hy, Option.bind_some, jn]
  cases decide (x ≥ y.min) <;> rfl
theorem t_sum (i : Int) (x : Int) (r : Row) (hi : idx l i = some r) (h : inTab ⟨T⟩ r.key = true) (h1 : i64 r.val) (h2 : i64 x) : ideal_turn_sum n i x T k a b c d v note m l = some ((plusP r.val x).1, sumB ⟨T⟩ r x, T, k, a, b, c, d, v, note, m, l) := by
  unfold ideal_turn_sum sumB
  simp only [hi, Option.bind_some, plus_eq n h1 h2, t_fits n T k a b c d v note m l r.key _ h]
  cases (plusP r.val x).2 <;> rfl
include hn in
theorem t_read (hl : l.length ≤ 1000) (hs : Srt l) : ideal_turn_read n T k a b c d v note m l = some ((onRow l ⟨a, b⟩ fun r => (⟨0, [r], 0⟩, l)).1, T, k, a, b, c, d, v, note, m, l) := by
  unfold ideal_turn_read ideal_turn_found_f81 ideal_turn_read_1 onRow
  rw [find_eq n hn l hl]
  rcases at_cases hs ⟨a, b⟩ with ⟨h1, h2, _⟩ | ⟨A, r, B, h, h1, h2, h3, h4, h5, h6⟩
  · rw [h1, h2]; rfl
  · rw [h1, h2]
    simp only [Option.bind_some, Bool.not_true, cond_false, h5]
include hn in
theorem t_scan (hl : l.length ≤ 1000) : ideal_turn_scan n T k a b c d v note m l = some (⟨0, ofP a l, 0⟩, T, k, a, b, c, d, v, note, m, l) := by
  unfold ideal_turn_scan
  rw [of_eq n hn l hl]; rfl
include hn in
theorem t_insert (hr : right ⟨T⟩ = true) (hg : listOk ⟨T⟩ l = true) (h : inTab ⟨T⟩ ⟨a, b⟩ = true) (hnote : (note.size : Int) ≤ 8) (P : Answer × List Row)
    (hP : P = if fitsP ⟨T⟩ ⟨a, b⟩ v then (match getK l ⟨a, b⟩ with | some _ => (ansE 5, l) | none => if l.length = 60 then (ansE 6, l) else (ansE 0, putK l ⟨⟨a, b⟩, v, note⟩)) else (ansE 152, l)) :
    ideal_turn_insert n T k a b c d v note m l = some (P.1, T, k, a, b, c, d, v, note, m, P.2) := by
  subst hP
  have hs : (Schema.mk T).tables.length ≤ 1000 := by have := schTab hr; omega
  obtain ⟨hg1, hl⟩ := listOk_iff.1 hg
  obtain ⟨y, hy⟩ := idx_in (inTab_iff.1 h)
  unfold ideal_turn_insert
  rw [t_fits n T k a b c d v note m l ⟨a, b⟩ v h]
  cases hf : fitsP ⟨T⟩ ⟨a, b⟩ v with
  | false => rfl
  | true =>
    simp only [Option.bind_some, Bool.not_true, cond_false, if_true, find_eq n hn l (by omega), jn, ideal_turn_insert_j1]
    rcases at_cases hg1.2 ⟨a, b⟩ with ⟨h1, h2, A, B, h3⟩ | ⟨A, r, B, h3, h1, h2, h4, h5, h6, h7⟩
    · have he : rowErr ⟨T⟩ ⟨⟨a, b⟩, v, note⟩ = 0 := by
        unfold rowErr
        unfold fitsP at hf
        rw [hy] at hf
        simp only [h, if_true, hnote, hy, hf]
      rw [h1, h2, put_eq n hn hs hr hg (r := ⟨⟨a, b⟩, v, note⟩) h3]
      unfold putErr
      rw [he]
      by_cases h60 : l.length = 60
      · simp [h60, ansE]
      · simp only [cond_false, Option.bind_some, ne_eq, not_true_eq_false, if_false, h60, and_false, if_true, putK_at (r := ⟨⟨a, b⟩, v, note⟩) h3]
        rfl
    · rw [h1, h2]; rfl
include hn in
theorem t_remove (hl : l.length ≤ 1000) (hs : Srt l) (P : Answer × List Row) (hP : P = onRow l ⟨a, b⟩ fun _ => (ansE 0, delK l ⟨a, b⟩)) : ideal_turn_remove n T k a b c d v note m l = some (P.1, T, k, a, b, c, d, v, note, m, P.2) := by
  subst hP
  unfold ideal_turn_remove ideal_turn_found_f86 ideal_turn_remove_1 onRow
  rw [find_eq n hn l hl]
  rcases at_cases hs ⟨a, b⟩ with ⟨h1, h2, _⟩ | ⟨A, r, B, h, h1, h2, h3, h4, h5, h6⟩
  · rw [h1, h2]; rfl
  · have hd : slices_Delete_Row n (A.length : Int) ((A.length + 1 : Nat) : Int) l = some (delK l ⟨a, b⟩) := by
      show delL l _ _ = _
      unfold delL
      rw [if_pos ⟨by omega, by omega, by omega⟩, delK_at h]
      conv => lhs; rw [h.eq]
      simp
    rw [h1, h2]
    simp only [Option.bind_some, Bool.not_true, cond_false, wrap_succ (show A.length < 4611686018427387904 by omega), hd]
    rfl
include hn in
theorem t_note (hl : l.length ≤ 1000) (hs : Srt l) (P : Answer × List Row) (hP : P = onRow l ⟨a, b⟩ fun r => (ansE 0, putK l ⟨r.key, r.val, note⟩)) : ideal_turn_note n T k a b c d v note m l = some (P.1, T, k, a, b, c, d, v, note, m, P.2) := by
  subst hP
  unfold ideal_turn_note ideal_turn_found_f88 ideal_turn_note_1 onRow
  rw [find_eq n hn l hl]
  rcases at_cases hs ⟨a, b⟩ with ⟨h1, h2, _⟩ | ⟨A, r, B, h, h1, h2, h3, h4, h5, h6⟩
  · rw [h1, h2]; rfl
  · have hp := put_at (r := ⟨r.key, r.val, note⟩) (show At l r.key A (some r) B by rw [h3]; exact h)
    rw [h1, h2]
    simp only [Option.bind_some, Bool.not_true, cond_false, h5, hp]
    rfl
include hn in
theorem t_set (hl : l.length ≤ 1000) (hs : Srt l) (h : inTab ⟨T⟩ ⟨a, b⟩ = true) (P : Answer × List Row) (hP : P = if fitsP ⟨T⟩ ⟨a, b⟩ v then onRow l ⟨a, b⟩ fun r => (ansE 0, putK l (withV r v)) else (ansE 152, l)) : ideal_turn_set n T k a b c d v note m l = some (P.1, T, k, a, b, c, d, v, note, m, P.2) := by
  subst hP
  unfold ideal_turn_set
  rw [t_fits n T k a b c d v note m l ⟨a, b⟩ v h]
  cases hf : fitsP ⟨T⟩ ⟨a, b⟩ v with
  | false => rfl
  | true =>
    simp only [Option.bind_some, Bool.not_true, cond_false, if_true]
    unfold ideal_turn_found_f89 ideal_turn_set_1 onRow
    rw [find_eq n hn l hl]
    rcases at_cases hs ⟨a, b⟩ with ⟨h1, h2, _⟩ | ⟨A, r, B, h, h1, h2, h3, h4, h5, h6⟩
    · rw [h1, h2]; rfl
    · have hp := put_at (r := withV r v) (show At l r.key A (some r) B by rw [h3]; exact h)
      unfold withV at hp ⊢
      rw [h1, h2]
      simp only [Option.bind_some, Bool.not_true, cond_false, h5, hp]
      rfl
include hn in
theorem t_add (hl : l.length ≤ 1000) (hg : good ⟨T⟩ l) (hv : i64 v) (hi : ∀ r ∈ l, i64 r.val) (P : Answer × List Row) (hP : P = onRow l ⟨a, b⟩ fun r => if sumB ⟨T⟩ r v then (ansE 0, putK l (withV r (plusP r.val v).1)) else (ansE 152, l)) : ideal_turn_add n T k a b c d v note m l = some (P.1, T, k, a, b, c, d, v, note, m, P.2) := by
  subst hP
  unfold ideal_turn_add ideal_turn_found_f90 ideal_turn_add_1 onRow
  rw [find_eq n hn l hl]
  rcases at_cases hg.2 ⟨a, b⟩ with ⟨h1, h2, _⟩ | ⟨A, r, B, h, h1, h2, h3, h4, h5, h6⟩
  · rw [h1, h2]; rfl
  · have hp := put_at (r := withV r (plusP r.val v).1) (show At l r.key A (some r) B by rw [h3]; exact h)
    unfold withV at hp ⊢
    rw [h1, h2]
    simp only [Option.bind_some, Bool.not_true, cond_false, t_sum n T k a b c d v note m l _ v r h5 (rowErr_key (hg.1 r h4)) (hi r h4) hv]
    cases hb : sumB ⟨T⟩ r v with
    | false => rfl
    | true => simp only [Bool.not_true, cond_false, h5, hp, Option.bind_some, if_true]; rfl
theorem at_put {x : Row} {A B : List Row} (kk : Key) (hs : Srt l) (h : At l kk A (some x) B) (j : Nat) (t y : Row) (hj : l[j]? = some t) (hy : y.key = t.key) (hne : t.key ≠ kk) : ∃ A' B', At (l.set j y) kk A' (some x) B' ∧ A'.length = A.length := by
  have hjl : j < l.length := (List.getElem?_eq_some_iff.1 hj).1
  have hlen := at_len h
  have he := h.eq
  by_cases h1 : j < A.length
  · refine ⟨A.set j y, B, ⟨?_, fun r hr => ?_, h.mid, h.hi⟩, by simp⟩
    · rw [he, List.set_append_left _ _ h1]
    · rcases List.mem_or_eq_of_mem_set hr with hr | rfl
      · exact h.lo r hr
      · rw [hy]
        have hm : A[j]? = some t := by rw [he, List.getElem?_append_left h1] at hj; exact hj
        exact h.lo t (List.mem_of_getElem? hm)
  · have h2 : j ≠ A.length := fun e => by
      rw [he, e, List.getElem?_append_right (Nat.le_refl _)] at hj
      simp at hj
      subst hj
      exact hne (h.mid _ rfl)
    obtain ⟨d, rfl⟩ : ∃ d, j = A.length + (d + 1) := ⟨j - A.length - 1, by omega⟩
    refine ⟨A, B.set d y, ⟨?_, h.lo, h.mid, fun r hr => ?_⟩, rfl⟩
    · rw [he, List.set_append_right _ _ (by omega)]
      simp
    · have hm : B[d]? = some t := by
        rw [he, List.getElem?_append_right (by omega)] at hj
        simp at hj
        exact hj
      rcases List.mem_or_eq_of_mem_set hr with hr | rfl
      · exact h.hi r hr
      · rw [hy]
        exact h.hi t (List.mem_of_getElem? hm)
include hn in
theorem t_move (hl : l.length ≤ 1000) (hg : good ⟨T⟩ l) (hv : i64 v) (hv0 : 0 ≤ v) (hi : ∀ r ∈ l, i64 r.val) (hne : (Key.mk a b) ≠ Key.mk c d) (P : Answer × List Row)
    (hP : P = onRow l ⟨a, b⟩ fun r => onRow l ⟨c, d⟩ fun t => if sumB ⟨T⟩ r (-v) && sumB ⟨T⟩ t v then (ansE 0, putK (putK l (withV t (plusP t.val v).1)) (withV r (plusP r.val (-v)).1)) else (ansE 152, l)) : ideal_turn_move n T k a b c d v note m l = some (P.1, T, k, a, b, c, d, v, note, m, P.2) := by
  subst hP
  have hv' : i64 (-v) := ⟨by have := hv.2; omega, by omega⟩
  have hw : IntKind.wrap .i64 (0 - v) = -v := by rw [wrap_in (by have := hv.2; omega)]; omega
  unfold ideal_turn_move ideal_turn_found_f92 ideal_turn_move_1 ideal_turn_found_f93 ideal_turn_move_1_1 onRow
  rw [find_eq n hn l hl]
  rcases at_cases hg.2 ⟨a, b⟩ with ⟨h1, h2, _⟩ | ⟨A, r, B, h, h1, h2, h3, h4, h5, h6⟩
  · rw [h1, h2]; rfl
  · rw [h1, h2]
    simp only [Option.bind_some, Bool.not_true, cond_false, find_eq n hn l hl]
    rcases at_cases hg.2 ⟨c, d⟩ with ⟨g1, g2, _⟩ | ⟨A2, t, B2, g, g1, g2, g3, g4, g5, g6⟩
    · rw [g1, g2]; rfl
    · rw [g1, g2]
      simp only [Option.bind_some, Bool.not_true, cond_false, hw, t_sum n T k a b c d v note m l _ (-v) r h5 (rowErr_key (hg.1 r h4)) (hi r h4) hv', t_sum n T k a b c d v note m l _ v t g5 (rowErr_key (hg.1 t g4)) (hi t g4) hv, jn]
      cases hb : sumB ⟨T⟩ r (-v) with
      | false => rfl
      | true =>
        cases hb2 : sumB ⟨T⟩ t v with
        | false => rfl
        | true =>
          have hrt : A.length ≠ A2.length := fun e => by
            rw [e, g5] at h5
            injection h5 with h5
            rw [← h5, g3] at h3
            exact hne h3.symm
          have e5 : l[A.length]? = some r := by rw [← idx_nat]; exact h5
          have f5 : l[A2.length]? = some t := by rw [← idx_nat]; exact g5
          have p1 : put l (A.length : Int) (Row.mk r.key (plusP r.val (-v)).1 r.note) = some (l.set A.length (withV r (plusP r.val (-v)).1)) := put_ok h6
          have q1 : idx (l.set A.length (withV r (plusP r.val (-v)).1)) (A2.length : Int) = some t := by
            rw [idx_nat, List.getElem?_set_ne hrt]; exact f5
          have p2 : put (l.set A.length (withV r (plusP r.val (-v)).1)) (A2.length : Int) (Row.mk t.key (plusP t.val v).1 t.note) = some ((l.set A.length (withV r (plusP r.val (-v)).1)).set A2.length (withV t (plusP t.val v).1)) := put_ok (by simpa using g6)
          have hcomm : (l.set A.length (withV r (plusP r.val (-v)).1)).set A2.length (withV t (plusP t.val v).1) = putK (putK l (withV t (plusP t.val v).1)) (withV r (plusP r.val (-v)).1) := by
            rw [List.set_comm _ _ hrt]
            have s1 := set_at (r := withV t (plusP t.val v).1) (show At l t.key A2 (some t) B2 by rw [g3]; exact g)
            obtain ⟨A', B', k1, k2⟩ := at_put l ⟨a, b⟩ hg.2 h A2.length t (withV t (plusP t.val v).1) f5 rfl (by rw [g3]; exact fun e => hne e.symm)
            have s2 := set_at (r := withV r (plusP r.val (-v)).1) (show At (l.set A2.length (withV t (plusP t.val v).1)) r.key A' (some r) B' by rw [h3]; exact k1)
            rw [← s1, ← k2, s2]
          simp only [Bool.not_true, cond_false, Bool.and_self, if_true, h5, p1, q1, p2, Option.bind_some, hcomm]
          rfl
end
/-- What a request comes to that may be. -/
structure Fit (s : Schema) (l : List Row) (q : Request) : Prop where
  right : right s = true
  list : listOk s l = true
  req : reqOk s q = true
  kind : q.kind ≤ 8
  val : i64 q.val
  rows : ∀ r ∈ l, i64 r.val
theorem reqOk_facts {s : Schema} {q : Request} (h : reqOk s q = true) : 1 ≤ q.kind ∧ q.kind ≤ 12 ∧ inTab s q.key = true ∧ inTab s q.to = true ∧ (q.note.size : Int) ≤ 8 ∧ (q.kind = 8 → q.key ≠ q.to ∧ 0 ≤ q.val) ∧ (q.kind = 10 → 1 ≤ q.n) := by
  unfold reqOk at h
  simp only [Bool.and_eq_true, decide_eq_true_iff] at h
  obtain ⟨⟨⟨⟨⟨⟨h1, h2⟩, h3⟩, h4⟩, h5⟩, h6⟩, h7⟩ := h
  unfold moreOk at h7
  refine ⟨h1, h2, h5, h6, h4, fun e => ?_, fun e => ?_⟩
  · rw [if_pos e, key_eqb] at h7
    simpa using h7
  · rw [if_neg (by rw [e]; decide), if_pos e] at h7
    simpa using h7
theorem does_eq (n : Nat) (hn : 1003 ≤ n) {s : Schema} {l : List Row} {q : Request} (h : Fit s l q) : ideal_does n s l q = some (doP s l q) := by
  obtain ⟨hg, hl⟩ := listOk_iff.1 h.list
  obtain ⟨k1, k2, k3, k4, k5, k6, _⟩ := reqOk_facts h.req
  have hl' : l.length ≤ 1000 := by omega
  have hkk := h.kind
  unfold ideal_does doP
  rw [clone_ok n l hl']
  simp only [Option.bind_some]
  obtain ⟨T⟩ := s
  obtain ⟨kind, ⟨a, b⟩, ⟨c, d⟩, v, note, m⟩ := q
  simp only at k1 k2 k3 k4 k5 k6 hkk ⊢
  by_cases e1 : kind = 1
  · rw [decide_eq_true e1, if_pos e1, cond_true, t_read n hn T kind a b c d v note m l hl' hg.2]
    unfold onRow
    cases getK l ⟨a, b⟩ <;> rfl
  rw [decide_eq_false e1, if_neg e1, cond_false]
  by_cases e2 : kind = 2
  · rw [decide_eq_true e2, if_pos e2, cond_true, t_scan n hn T kind a b c d v note m l hl']; rfl
  rw [decide_eq_false e2, if_neg e2, cond_false]
  by_cases e3 : kind = 3
  · rw [decide_eq_true e3, if_pos e3, cond_true, t_insert n hn T kind a b c d v note m l h.right h.list k3 k5 _ rfl]; rfl
  rw [decide_eq_false e3, if_neg e3, cond_false]
  by_cases e4 : kind = 4
  · rw [decide_eq_true e4, if_pos e4, cond_true, t_remove n hn T kind a b c d v note m l hl' hg.2 _ rfl]; rfl
  rw [decide_eq_false e4, if_neg e4, cond_false]
  by_cases e5 : kind = 5
  · rw [decide_eq_true e5, if_pos e5, cond_true, t_note n hn T kind a b c d v note m l hl' hg.2 _ rfl]; rfl
  rw [decide_eq_false e5, if_neg e5, cond_false]
  by_cases e6 : kind = 6
  · rw [decide_eq_true e6, if_pos e6, cond_true, t_set n hn T kind a b c d v note m l hl' hg.2 k3 _ rfl]; rfl
  rw [decide_eq_false e6, if_neg e6, cond_false]
  by_cases e7 : kind = 7
  · rw [decide_eq_true e7, if_pos e7, cond_true, t_add n hn T kind a b c d v note m l hl' hg h.val h.rows _ rfl]; rfl
  rw [decide_eq_false e7, if_neg e7, cond_false]
  obtain rfl : kind = 8 := by omega
  rw [decide_eq_true rfl, cond_true, t_move n hn T 8 a b c d v note m l hl' hg h.val (k6 rfl).2 h.rows (k6 rfl).1 _ rfl]; rfl
end Go.Proofs.Ytegnflodgnfffaa
