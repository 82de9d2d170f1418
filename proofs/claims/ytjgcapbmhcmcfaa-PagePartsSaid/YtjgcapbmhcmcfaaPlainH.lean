/- Layer 11, plain: rows that are put, taken and found. -/
import Derived.Test.YtjgcapbmhcmcfaaPlain
namespace Go.Proofs.Ytjgcapbmhcmcfaa
open Go.Bur
set_option linter.unusedSimpArgs false
set_option linter.unusedVariables false
set_option maxRecDepth 100000

/-! ### Keys in order -/
instance : DecidableEq Key := fun a b => decidable_of_iff (a.table = b.table ∧ a.id = b.id) (by cases a; cases b; simp)
theorem key_eqb (a b : Key) : Key.eqb a b = decide (a = b) := by
  obtain ⟨a1, a2⟩ := a
  obtain ⟨b1, b2⟩ := b
  by_cases h1 : a1 = b1 <;> by_cases h2 : a2 = b2 <;> simp [Key.eqb, h1, h2]
theorem ltK_irrefl (a : Key) : ltK a a = false := by
  cases h : ltK a a with
  | false => rfl
  | true => rw [ltK_iff] at h; omega
theorem ltK_trans {a b c : Key} (h1 : ltK a b = true) (h2 : ltK b c = true) : ltK a c = true := by
  rw [ltK_iff] at *; omega
theorem ltK_total {a b : Key} (h1 : a ≠ b) (h2 : ltK b a = false) : ltK a b = true := by
  cases h : ltK a b with
  | true => rfl
  | false =>
    exfalso; apply h1
    have h3 : ¬ ltK a b = true := by rw [h]; decide
    have h4 : ¬ ltK b a = true := by rw [h2]; decide
    rw [ltK_iff] at h3 h4
    obtain ⟨a1, a2⟩ := a
    obtain ⟨b1, b2⟩ := b
    simp only at h3 h4
    have : a1 = b1 := by omega
    have : a2 = b2 := by omega
    simp [*]
def Srt (l : List Row) : Prop := l.Pairwise fun a b => ltK a.key b.key = true
theorem risesR_iff : ∀ (p : Option Key) (l : List Row), risesR p l = true ↔ (∀ r ∈ l, okRow r = true) ∧ Srt l ∧ ∀ k, p = some k → ∀ r ∈ l, ltK k r.key = true
  | p, [] => by simp [risesR, Srt]
  | p, r :: t => by
    simp only [risesR, Bool.and_eq_true, risesR_iff (some r.key) t, Srt, List.pairwise_cons]
    constructor
    · rintro ⟨⟨h1, h2⟩, h3, h4, h5⟩
      refine ⟨fun x hx => ?_, ⟨fun x hx => h5 _ rfl x hx, h4⟩, fun k hk x hx => ?_⟩
      · rcases List.mem_cons.1 hx with rfl | hx
        · exact h1
        · exact h3 x hx
      · subst hk
        rcases List.mem_cons.1 hx with rfl | hx
        · exact h2
        · exact ltK_trans h2 (h5 _ rfl x hx)
    · rintro ⟨h1, ⟨h2, h3⟩, h4⟩
      refine ⟨⟨h1 r (by simp), ?_⟩, fun x hx => h1 x (by simp [hx]), h3, fun k hk x hx => by cases hk; exact h2 x hx⟩
      cases p with
      | none => rfl
      | some k => exact h4 k rfl r (by simp)
/-! ### Where a key stands -/
def at_ (l : List Row) (k : Key) : Option Nat := l.findIdx? fun r => decide (r.key = k)
/-- Index of the first that fits, as the code tells it. -/
def ixI (o : Option Nat) : Int := match o with
  | some i => (i : Int)
  | none => -1
theorem runL_find {p : Row → Bool} : ∀ (l : List Row) (i : Nat), runL (R := Int) (fun i x (_ : Unit) => if p x then .inl (some (i : Int)) else .inr ()) (fun _ => some (-1)) l i () = some (ixI ((l.findIdx? p).map (· + i)))
  | [], i => rfl
  | x :: t, i => by
    by_cases hp : p x = true
    · simp [runL, hp, List.findIdx?_cons, ixI]
    · have hp : p x = false := by simpa using hp
      have ih := runL_find (p := p) t (i + 1)
      simp only [runL, hp, List.findIdx?_cons, Bool.false_eq_true, if_false]
      rw [ih]
      cases t.findIdx? p with
      | none => rfl
      | some j => simp [ixI]; omega
theorem index_eq (n : Nat) (hn : 1003 ≤ n) (l : List Row) (hl : l.length ≤ 1000) (k : Key) : slices_IndexFunc_Row_f82 n l k = some (ixI (at_ l k)) := by
  show slices_IndexFunc_Row_f82_l1 n n (l, k, (l.length : Int), ((0 : Nat) : Int), ()) = _
  unfold slices_IndexFunc_Row_f82_l1
  refine (run_loop l (fun (i : Nat) (_ : Unit) => (l, k, (l.length : Int), (i : Int), ())) (fun i x _ => if decide (x.key = k) then .inl (some (i : Int)) else .inr ()) (fun _ => some (-1)) (fun r i s x hx hi => ?_) (fun r s => ?_) n 0 () (by omega) (by omega)).trans ?_
  · simp only [lt_dec hi, cond_true, idx_nat, hx, Option.bind_some, wrap_succ (show i < 4611686018427387904 by omega), row_Find_1, key_eqb]
    by_cases h : x.key = k
    · simp [h]
    · simp [h]
  · simp only [ge_dec (Nat.lt_irrefl _), cond_false]
  · rw [List.drop_zero, runL_find]
    unfold at_
    cases l.findIdx? fun r => decide (r.key = k) <;> rfl
theorem find_eq (n : Nat) (hn : 1003 ≤ n) (l : List Row) (hl : l.length ≤ 1000) (k : Key) : row_Find n l k = some (match at_ l k with | some i => ((i : Int), true) | none => (0, false)) := by
  unfold row_Find
  rw [index_eq n hn l hl]
  cases at_ l k with
  | none => rfl
  | some i =>
    simp only [Option.bind_some, ixI]
    rw [if_neg (by omega), decide_eq_true (by omega)]
def above (l : List Row) (k : Key) : Option Nat := l.findIdx? fun r => ltK k r.key
theorem cmpK_pos {a b : Key} : decide (cmpK a b > 0) = ltK b a := by
  unfold ltK
  rw [Bool.eq_iff_iff, decide_eq_true_iff, decide_eq_true_iff]
  unfold cmpK cmpI
  repeat' split
  all_goals omega
theorem above_eq (n : Nat) (hn : 1003 ≤ n) (l : List Row) (hl : l.length ≤ 1000) (r : Row) : slices_IndexFunc_Row_f64 n l r = some (ixI (above l r.key)) := by
  show slices_IndexFunc_Row_f64_l1 n n (l, r, (l.length : Int), ((0 : Nat) : Int), ()) = _
  unfold slices_IndexFunc_Row_f64_l1
  refine (run_loop l (fun (i : Nat) (_ : Unit) => (l, r, (l.length : Int), (i : Int), ())) (fun i x _ => if ltK r.key x.key then .inl (some (i : Int)) else .inr ()) (fun _ => some (-1)) (fun q i s x hx hi => ?_) (fun r s => ?_) n 0 () (by omega) (by omega)).trans ?_
  · simp only [lt_dec hi, cond_true, idx_nat, hx, Option.bind_some, wrap_succ (show i < 4611686018427387904 by omega), page_Put_1, compare_eq n (by omega), cmpK_pos]
    by_cases h : ltK r.key x.key = true
    · simp [h]
    · have h : ltK r.key x.key = false := by simpa using h
      simp [h]
  · simp only [ge_dec (Nat.lt_irrefl _), cond_false]
  · rw [List.drop_zero, runL_find]
    unfold above
    cases l.findIdx? fun x => ltK r.key x.key <;> rfl

/-! ### Cut where a key stands -/
theorem idx_split {p : Row → Bool} : ∀ {l : List Row} {i : Nat}, l.findIdx? p = some i → ∃ pre x post, l = pre ++ x :: post ∧ pre.length = i ∧ p x = true ∧ ∀ y ∈ pre, p y = false
  | [], i, h => by simp at h
  | a :: t, i, h => by
    rw [List.findIdx?_cons] at h
    by_cases hp : p a = true
    · rw [if_pos hp] at h
      injection h with h
      exact ⟨[], a, t, rfl, by simpa using h, hp, by simp⟩
    · rw [if_neg hp] at h
      obtain ⟨j, hj, rfl⟩ := Option.map_eq_some_iff.1 h
      obtain ⟨pre, x, post, rfl, h2, h3, h4⟩ := idx_split hj
      refine ⟨a :: pre, x, post, rfl, by simp [h2], h3, fun y hy => ?_⟩
      rcases List.mem_cons.1 hy with rfl | hy
      · simpa using hp
      · exact h4 y hy
theorem idx_none {p : Row → Bool} {l : List Row} (h : l.findIdx? p = none) : ∀ x ∈ l, p x = false := by
  intro x hx
  have := List.findIdx?_eq_none_iff.1 h x hx
  simpa using this
def findK (l : List Row) (k : Key) : Option Row := l.find? fun r => decide (r.key = k)
theorem findK_app (a b : List Row) (k : Key) : findK (a ++ b) k = (findK a k).or (findK b k) := by simp [findK, List.find?_append]
theorem findK_cons (x : Row) (t : List Row) (k : Key) : findK (x :: t) k = if x.key = k then some x else findK t k := by
  unfold findK
  by_cases h : x.key = k <;> simp [List.find?_cons, h]
theorem findK_none {l : List Row} {k : Key} (h : ∀ x ∈ l, x.key ≠ k) : findK l k = none := by
  unfold findK
  simpa [List.find?_eq_none] using h
/-- l, cut at a key: those before, those behind. -/
structure Cut (k : Key) (pre post : List Row) : Prop where
  lo : ∀ y ∈ pre, ltK y.key k = true
  hi : ∀ z ∈ post, ltK k z.key = true
theorem Cut.ne1 {k : Key} {pre post : List Row} (h : Cut k pre post) : ∀ y ∈ pre, y.key ≠ k := fun y hy e => by
  have := h.lo y hy; rw [e, ltK_irrefl] at this; cases this
theorem Cut.ne2 {k : Key} {pre post : List Row} (h : Cut k pre post) : ∀ y ∈ post, y.key ≠ k := fun y hy e => by
  have := h.hi y hy; rw [e, ltK_irrefl] at this; cases this
theorem srt_cut {pre post : List Row} {x : Row} (h : Srt (pre ++ x :: post)) : Cut x.key pre post ∧ Srt (pre ++ post) := by
  unfold Srt at *
  rw [List.pairwise_append, List.pairwise_cons] at h
  obtain ⟨h1, ⟨h2, h3⟩, h4⟩ := h
  refine ⟨⟨fun y hy => h4 y hy x (by simp), h2⟩, ?_⟩
  rw [List.pairwise_append]
  exact ⟨h1, h3, fun a ha b hb => h4 a ha b (by simp [hb])⟩
theorem cut_srt {pre post : List Row} {r : Row} (h : Srt (pre ++ post)) (hc : Cut r.key pre post) : Srt (pre ++ r :: post) := by
  unfold Srt at *
  rw [List.pairwise_append] at h
  obtain ⟨h1, h3, h4⟩ := h
  rw [List.pairwise_append, List.pairwise_cons]
  refine ⟨h1, ⟨hc.hi, h3⟩, fun a ha b hb => ?_⟩
  rcases List.mem_cons.1 hb with rfl | hb
  · exact hc.lo a ha
  · exact h4 a ha b hb
theorem cut_uniq {k : Key} {a b c d : List Row} (h1 : Cut k a b) (h2 : Cut k c d) (h : a ++ b = c ++ d) : a = c ∧ b = d := by
  have key : ∀ {a b : List Row}, Cut k a b → (a ++ b).takeWhile (fun y => ltK y.key k) = a := fun {a b} hc => by
    rw [List.takeWhile_append_of_pos (by intro y hy; exact hc.lo y hy)]
    have : b.takeWhile (fun y => ltK y.key k) = [] := by
      cases b with
      | nil => rfl
      | cons z t =>
        have hz := hc.hi z (by simp)
        have : ltK z.key k = false := by
          cases hh : ltK z.key k with
          | false => rfl
          | true => have := ltK_trans hz hh; rw [ltK_irrefl] at this; cases this
        simp [List.takeWhile_cons, this]
    rw [this, List.append_nil]
  have e : a = c := by rw [← key h1, h, key h2]
  subst e
  exact ⟨rfl, List.append_cancel_left h⟩
/-- Where a key is not, there is a place for it. -/
theorem place {l : List Row} {k : Key} (hs : Srt l) (hn : at_ l k = none) : ∃ pre post, l = pre ++ post ∧ Cut k pre post ∧ (match above l k with | some i => i | none => l.length) = pre.length := by
  have hne : ∀ x ∈ l, x.key ≠ k := fun x hx => by simpa using idx_none hn x hx
  cases ha : above l k with
  | none =>
    have h1 := idx_none ha
    exact ⟨l, [], by simp, ⟨fun y hy => ltK_total (hne y hy) (h1 y hy), by simp⟩, rfl⟩
  | some i =>
    obtain ⟨pre, x, post, rfl, h2, h3, h4⟩ := idx_split ha
    refine ⟨pre, x :: post, rfl, ⟨fun y hy => ltK_total (hne y (by simp [hy])) (h4 y hy), fun z hz => ?_⟩, h2.symm⟩
    rcases List.mem_cons.1 hz with rfl | hz
    · exact h3
    · exact ltK_trans h3 ((srt_cut hs).1.hi z hz)

/-! ### Get, Put, Take -/
def row0 : Row := ⟨⟨0, 0⟩, 0, ByteArray.empty⟩
def cont0 : Content := ⟨0, [], []⟩
def err1 (c : Content) : Int := if checkP c then (if c.kind = 1 then 0 else 211) else 160
theorem asked1_eq (n : Nat) (hn : 1003 ≤ n) (c : Content) (hc : Fine c) : page_asked n 1 [c] = some (err1 c) := by
  show page_asked_l1 n n (1, [c], [c], (([c] : List Content).length : Int), ((0 : Nat) : Int), ()) = _
  unfold page_asked_l1
  refine (run_loop [c] (fun (i : Nat) (_ : Unit) => ((1 : Int), [c], [c], (([c] : List Content).length : Int), (i : Int), ())) (fun _ c _ => if checkP c then .inr () else .inl (some 160)) (fun _ => if c.kind = 1 then some 0 else some 211) (fun r i s x hx hi => ?_) (fun r s => ?_) n 0 () (by simp) (by simp; omega)).trans ?_
  · have hx' : x = c := by have := List.mem_of_getElem? hx; simpa using this
    subst hx'
    simp only [lt_dec hi, cond_true, idx_nat, hx, Option.bind_some, check_eq n hn x hc, wrap_succ (show i < 4611686018427387904 by simp at hi; omega)]
    cases checkP x <;> rfl
  · simp only [ge_dec (Nat.lt_irrefl _), cond_false]
    show page_asked_l2 n n (1, [c], (([c] : List Content).length : Int), ((0 : Nat) : Int), ()) = _
    unfold page_asked_l2
    refine (run_loop [c] (fun (i : Nat) (_ : Unit) => ((1 : Int), [c], (([c] : List Content).length : Int), (i : Int), ())) (fun _ c _ => if decide (c.kind = 1) then .inr () else .inl (some 211)) (fun _ => some 0) (fun r i s x hx hi => ?_) (fun r s => ?_) n 0 () (by simp) (by simp; omega)).trans ?_
    · simp only [lt_dec hi, cond_true, idx_nat, hx, Option.bind_some, jn, wrap_succ (show i < 4611686018427387904 by simp at hi; omega)]
      have h1 : ((1 : Int) == 1) = true := by decide
      have h2 : ((1 : Int) == 2) = false := by decide
      have h3 : (x.kind != 1) = !decide (x.kind = 1) := by rw [bne, ibeq]
      rw [h1, h2, h3]
      cases decide (x.kind = 1) <;> rfl
    · simp only [ge_dec (Nat.lt_irrefl _), cond_false]
    · rw [List.drop_zero, runL_all]
      by_cases h : c.kind = 1 <;> simp [h]
  · rw [List.drop_zero, runL_all]
    unfold err1
    by_cases hck : checkP c = true <;> by_cases h : c.kind = 1 <;> simp [hck, h]
def ofF : Option Row → Row × Int
  | some r => (r, 0)
  | none => (row0, 4)
def getP (c : Content) (k : Key) : Row × Int := if err1 c = 0 then ofF (findK c.rows k) else (row0, err1 c)
theorem at_find {l : List Row} {k : Key} : findK l k = (match at_ l k with | some i => l[i]? | none => none) := by
  cases h : at_ l k with
  | none => exact findK_none fun x hx => by simpa using idx_none h x hx
  | some i =>
    obtain ⟨pre, x, post, rfl, rfl, h3, h4⟩ := idx_split h
    have h3 : x.key = k := by simpa using h3
    rw [findK_app, findK_none (fun y hy => by simpa using h4 y hy), findK_cons, if_pos h3]
    simp
theorem get_eq (n : Nat) (hn : 1003 ≤ n) (c : Content) (hc : Fine c) (k : Key) : page_Get n c k = some (getP c k) := by
  unfold page_Get getP
  rw [asked1_eq n hn c hc]
  simp only [Option.bind_some]
  by_cases he : err1 c = 0
  · rw [if_pos he, show (err1 c != 0) = false from by simp [he], cond_false, find_eq n hn _ hc.rows, at_find]
    cases ha : at_ c.rows k with
    | none => rfl
    | some i =>
      obtain ⟨pre, x, post, h1, rfl, _⟩ := idx_split ha
      have hi : c.rows[pre.length]? = some x := by rw [h1]; simp
      simp only [Option.bind_some, Bool.not_true, cond_false, idx_nat, hi]
      rfl
  · rw [if_neg he, show (err1 c != 0) = true from by simp [he]]
    rfl
theorem leaf_facts {c : Content} (he : err1 c = 0) : c.kind = 1 ∧ c.kids = [] ∧ checkP c = true ∧ c.rows.length ≤ 4 ∧ (∀ r ∈ c.rows, okRow r = true) ∧ Srt c.rows := by
  unfold err1 at he
  split at he
  · rename_i hck
    split at he
    · rename_i hk
      have h := hck
      unfold checkP at h
      rw [if_neg (by rw [hk]; decide), if_pos hk] at h
      simp only [Bool.and_eq_true, decide_eq_true_iff] at h
      obtain ⟨h1, h2, h3⟩ := h
      rw [risesR_iff] at h3
      exact ⟨hk, List.eq_nil_of_length_eq_zero h1, hck, h2, h3.1, h3.2.1⟩
    · cases he
  · cases he
theorem leaf_ok {l : List Row} (h1 : l.length ≤ 4) (h2 : ∀ r ∈ l, okRow r = true) (h3 : Srt l) : checkP ⟨1, l, []⟩ = true ∧ err1 ⟨1, l, []⟩ = 0 ∧ Fine ⟨1, l, []⟩ := by
  have h : checkP ⟨1, l, []⟩ = true := by
    unfold checkP
    rw [if_neg (by show ¬ (1 : Int) = 0; decide), if_pos rfl]
    simp only [Bool.and_eq_true, decide_eq_true_iff]
    exact ⟨rfl, h1, (risesR_iff _ _).2 ⟨h2, h3, fun k hk => by cases hk⟩⟩
  exact ⟨h, by unfold err1; rw [if_pos h, if_pos rfl], ⟨by simp; omega, by simp, by simp⟩⟩
theorem one_eq (n : Nat) (hn : 1003 ≤ n) (c : Content) (hc : Fine c) (hck : checkP c = true) : page_one n c = some (c, 0) := by
  unfold page_one
  rw [comes_eq n hn [c] (by simp) (by intro d hd; simp at hd; subst hd; exact hc)]
  simp [hck]
/-- Put into a leaf that stands there already: in its place. -/
theorem put_in (n : Nat) (hn : 1003 ≤ n) (c : Content) (hc : Fine c) (r : Row) (he : err1 c = 0) (hr : okRow r = true) {pre post : List Row} {x : Row} (hl : c.rows = pre ++ x :: post) (hx : x.key = r.key) : page_Put n c r = some (⟨1, pre ++ r :: post, []⟩, 0) := by
  obtain ⟨f1, f2, f3, f4, f5, f6⟩ := leaf_facts he
  rw [hl] at f4 f5 f6
  have hcut := (srt_cut f6)
  rw [hx] at hcut
  have hat : at_ c.rows r.key = some pre.length := by
    unfold at_
    rw [hl, List.findIdx?_append]
    have : pre.findIdx? (fun y => decide (y.key = r.key)) = none := by
      rw [List.findIdx?_eq_none_iff]
      intro y hy
      simpa using hcut.1.ne1 y hy
    rw [this]
    simp [List.findIdx?_cons, hx]
  obtain ⟨g1, g2, g3⟩ := leaf_ok (l := pre ++ r :: post) (by simpa using f4) (fun y hy => by
    simp only [List.mem_append, List.mem_cons] at hy
    rcases hy with h | h | h
    · exact f5 y (by simp [h])
    · subst h; exact hr
    · exact f5 y (by simp [h])) (cut_srt hcut.2 hcut.1)
  have hi : c.rows[pre.length]? = some x := by rw [hl]; simp
  have hset : put c.rows ((pre.length : Nat) : Int) r = some (pre ++ r :: post) := by
    rw [put_ok (by rw [hl]; simp), hl]
    simp
  unfold page_Put
  rw [asked1_eq n hn c hc, he]
  simp only [Option.bind_some, show ((0 : Int) != 0) = false from by decide, cond_false, checkRow_eq, hr, if_true, cloneR_eq n c.rows hc.rows, find_eq n hn _ hc.rows, hat, jn, page_Put_j1, cond_true, idx_nat, hi, hset, page_leaf, one_eq n hn _ g3 g1]
/-- Put into a leaf where it does not stand: at its place, if there is room. -/
theorem put_new (n : Nat) (hn : 1003 ≤ n) (c : Content) (hc : Fine c) (r : Row) (he : err1 c = 0) (hr : okRow r = true) {pre post : List Row} (hl : c.rows = pre ++ post) (hcut : Cut r.key pre post) (h3 : c.rows.length ≤ 3) : page_Put n c r = some (⟨1, pre ++ r :: post, []⟩, 0) := by
  obtain ⟨f1, f2, f3, f4, f5, f6⟩ := leaf_facts he
  have hat : at_ c.rows r.key = none := by
    unfold at_
    rw [List.findIdx?_eq_none_iff]
    intro y hy
    rw [hl] at hy
    rcases List.mem_append.1 hy with h | h
    · simpa using hcut.ne1 y h
    · simpa using hcut.ne2 y h
  obtain ⟨pre', post', e1, e2, e3⟩ := place f6 hat
  obtain ⟨rfl, rfl⟩ := cut_uniq e2 hcut (e1.symm.trans hl)
  have hfull : fullP c = false := by
    unfold fullP sizeP
    rw [f2]
    simp; intro _; omega
  rw [hl] at f5 f6 h3
  obtain ⟨g1, g2, g3⟩ := leaf_ok (l := pre' ++ r :: post') (by simp at h3 ⊢; omega) (fun y hy => by
    simp only [List.mem_append, List.mem_cons] at hy
    rcases hy with h | h | h
    · exact f5 y (by simp [h])
    · subst h; exact hr
    · exact f5 y (by simp [h])) (cut_srt f6 hcut)
  have hins : ∀ j : Int, j = (pre'.length : Int) → slices_Insert_Row n j c.rows [r] = some (pre' ++ r :: post') := fun j hj => by
    subst hj
    show insL 40 c.rows _ [r] = _
    unfold insL
    rw [if_pos ⟨by omega, by rw [hl]; simp; omega⟩, room_ok (by have := hc.rows; simp; omega), hl]
    simp
  have habove := above_eq n hn c.rows hc.rows r
  unfold page_Put
  rw [asked1_eq n hn c hc, he]
  simp only [Option.bind_some, show ((0 : Int) != 0) = false from by decide, cond_false, checkRow_eq, hr, if_true, cloneR_eq n c.rows hc.rows, find_eq n hn _ hc.rows, hat, jn, page_Put_j1, full_eq n c hc, hfull, habove, page_Put_j2]
  cases ha : above c.rows r.key with
  | none =>
    rw [ha] at e3
    simp only [ixI]
    have e3 : c.rows.length = pre'.length := e3
    refine (condT' (by decide)).trans ?_
    rw [hins _ (by rw [e3])]
    simp only [Option.bind_some, page_leaf, one_eq n hn _ g3 g1]
  | some i =>
    rw [ha] at e3
    simp only [ixI]
    have e3 : i = pre'.length := e3
    refine (condF' (decide_eq_false (by omega))).trans ?_
    rw [hins _ (by rw [e3])]
    simp only [Option.bind_some, page_leaf, one_eq n hn _ g3 g1]
theorem take_eq (n : Nat) (hn : 1003 ≤ n) (c : Content) (hc : Fine c) (k : Key) : (getP c k).2 ≠ 0 → page_Take n c k = some (cont0, row0, (getP c k).2) := by
  intro h
  unfold page_Take
  rw [get_eq n hn c hc]
  simp only [Option.bind_some, show ((getP c k).2 != 0) = true from by simpa using h, cond_true]
  rfl
theorem take_in (n : Nat) (hn : 1003 ≤ n) (c : Content) (hc : Fine c) (k : Key) (he : err1 c = 0) {pre post : List Row} {x : Row} (hl : c.rows = pre ++ x :: post) (hx : x.key = k) : page_Take n c k = some (⟨1, pre ++ post, []⟩, x, 0) := by
  obtain ⟨f1, f2, f3, f4, f5, f6⟩ := leaf_facts he
  rw [hl] at f4 f5 f6
  have hcut := (srt_cut f6).1
  rw [hx] at hcut
  have hat : at_ c.rows k = some pre.length := by
    unfold at_
    rw [hl, List.findIdx?_append]
    have : pre.findIdx? (fun y => decide (y.key = k)) = none := by
      rw [List.findIdx?_eq_none_iff]
      intro y hy
      simpa using hcut.ne1 y hy
    rw [this]
    simp [List.findIdx?_cons, hx]
  have hg : getP c k = (x, 0) := by
    unfold getP
    rw [if_pos he, hl, findK_app, findK_none hcut.ne1, findK_cons, if_pos hx]
    rfl
  have hd : slices_Delete_Row n (pre.length : Int) ((pre.length + 1 : Nat) : Int) c.rows = some (pre ++ post) := by
    show delL c.rows _ _ = _
    unfold delL
    rw [if_pos ⟨by omega, by omega, by rw [hl]; simp; omega⟩, hl]
    simp
  unfold page_Take
  rw [get_eq n hn c hc, hg]
  simp only [Option.bind_some, show ((0 : Int) != 0) = false from by decide, cond_false, find_eq n hn _ hc.rows, hat, cloneR_eq n c.rows hc.rows, wrap_succ (show pre.length < 4611686018427387904 by simp at f4; omega), hd, page_leaf]
end Go.Proofs.Ytjgcapbmhcmcfaa
