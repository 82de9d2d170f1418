/- Layer 11: the plain law PageLevels. -/
import Derived.Test.YtjgcapbmhcmcfaaPlainLe
namespace Go.Proofs.Ytjgcapbmhcmcfaa
open Go.Bur
set_option linter.unusedSimpArgs false
set_option linter.unusedVariables false
set_option maxRecDepth 100000

theorem runL_total {α σ R : Type} {step : Nat → α → σ → Option R ⊕ σ} {fin : σ → Option R} (I : Nat → σ → Prop) (hf : ∀ i s, I i s → ∃ r, fin s = some r) : ∀ (l : List α) (i : Nat) (s : σ), I i s →
    (∀ i s x, x ∈ l → I i s → (∃ r, step i x s = .inl (some r)) ∨ ∃ s', step i x s = .inr s' ∧ I (i + 1) s') → ∃ r, runL step fin l i s = some r
  | [], i, s, hI, _ => hf i s hI
  | x :: t, i, s, hI, hs => by
    rcases hs i s x (by simp) hI with ⟨r, hr⟩ | ⟨s', hr, hI'⟩
    · exact ⟨r, by simp only [runL, hr]⟩
    · obtain ⟨r, h⟩ := runL_total I hf t (i + 1) s' hI' fun i s x hx => hs i s x (by simp [hx])
      exact ⟨r, by simp only [runL, hr]; exact h⟩
def pagesP (l : List Kid) : List Int := l.map (·.page)
theorem equalI (n : Nat) (hn : 1003 ≤ n) (l : List Int) (hl : l.length ≤ 1000) : slices_Equal_int n l l = some true := by
  unfold slices_Equal_int
  rw [show ((l.length : Int) != (l.length : Int)) = false from by simp]
  show slices_Equal_int_l1 n n (l, l, (l.length : Int), ((0 : Nat) : Int), ()) = some true
  unfold slices_Equal_int_l1
  refine (run_loop l (fun (i : Nat) (_ : Unit) => (l, l, (l.length : Int), (i : Int), ())) (fun _ x s => .inr s) (fun _ => some true) (fun r i s x hx hi => ?_) (fun r s => ?_) n 0 () (by omega) (by omega)).trans ?_
  · simp only [lt_dec hi, cond_true, idx_nat, hx, Option.bind_some, show (x != x) = false from by simp, cond_false, wrap_succ (show i < 4611686018427387904 by omega)]
  · simp only [ge_dec (Nat.lt_irrefl _), cond_false]
  · exact runL_skip _ _
/-- The pages of all, in order. -/
theorem pages2_eq (n : Nat) (hn : 1003 ≤ n) (r1 : (List Content) × Int × Int × (List Int) × Unit → Option (List Int)) (cs : List Content) (a b : Int) (l : List Kid) (hl : l.length ≤ 100) (acc : List Int) (ha : acc.length ≤ 100000) :
    law11_PageLevels_1_l2 n r1 n (cs, a, b, l, (l.length : Int), 0, acc, ()) = r1 (cs, a, IntKind.wrap .i64 (b + 1), acc ++ pagesP l, ()) := by
  show law11_PageLevels_1_l2 n r1 n (cs, a, b, l, (l.length : Int), ((0 : Nat) : Int), acc, ()) = _
  unfold law11_PageLevels_1_l2
  refine (run_loopI l (fun (i : Nat) (s : List Int) => (cs, a, b, l, (l.length : Int), (i : Int), s, ())) (fun _ x s => .inr (s ++ [x.page])) (fun s => r1 (cs, a, IntKind.wrap .i64 (b + 1), s, ())) (fun i s => s.length ≤ 100000 + i) (fun i s x s' hx hi hs => ?_) (fun r i s x hx hi hs => ?_) (fun r s hs => ?_) n 0 acc (by omega) (by omega) (by omega)).trans ?_
  · injection hs with hs; subst hs; simp; omega
  · have happ : app 8 s [x.page] = some (s ++ [x.page]) := app_lt (by simp; omega) (by decide)
    simp only [lt_dec hi, cond_true, idx_nat, hx, Option.bind_some, wrap_succ (show i < 4611686018427387904 by omega), happ]
  · simp only [ge_dec (Nat.lt_irrefl _), cond_false]
  · have : ∀ (t : List Kid) (i : Nat) (s : List Int), runL (R := List Int) (fun _ x s => .inr (s ++ [x.page])) (fun s => r1 (cs, a, IntKind.wrap .i64 (b + 1), s, ())) t i s = r1 (cs, a, IntKind.wrap .i64 (b + 1), s ++ pagesP t, ()) := by
      intro t
      induction t with
      | nil => intro i s; simp [runL, pagesP]
      | cons x t ih => intro i s; simp only [runL]; rw [ih]; simp [pagesP]
    rw [List.drop_zero, this]
theorem pages_eq (n : Nat) (hn : 1003 ≤ n) (c d : Content) (hc : c.kids.length ≤ 100) (hd : d.kids.length ≤ 100) : law11_PageLevels_1 n [c, d] = some (pagesP c.kids ++ pagesP d.kids) := by
  show law11_PageLevels_1_l1 n n ([c, d], (([c, d] : List Content).length : Int), ((0 : Nat) : Int), [], ()) = _
  unfold law11_PageLevels_1_l1
  refine (run_loopI [c, d] (fun (i : Nat) (s : List Int) => ([c, d], (([c, d] : List Content).length : Int), (i : Int), s, ())) (fun _ x s => .inr (s ++ pagesP x.kids)) (fun s => some s) (fun i s => s.length ≤ 100 * i) (fun i s x s' hx hi hs => ?_) (fun r i s x hx hi hs => ?_) (fun r s hs => ?_) n 0 [] (by simp) (by simp; omega) (by simp)).trans ?_
  · injection hs with hs
    subst hs
    have hm := List.mem_of_getElem? hx
    simp only [List.mem_cons, List.not_mem_nil, or_false] at hm
    rcases hm with rfl | rfl <;> simp [pagesP] <;> omega
  · have hm := List.mem_of_getElem? hx
    have hk : x.kids.length ≤ 100 := by
      simp only [List.mem_cons, List.not_mem_nil, or_false] at hm
      rcases hm with rfl | rfl <;> assumption
    have hi2 : i < 2 := by simpa using hi
    simp only [lt_dec hi, cond_true, idx_nat, hx, Option.bind_some, pages2_eq n hn r [c, d] _ _ x.kids hk s (by omega), wrap_succ (show i < 4611686018427387904 by omega)]
  · simp only [ge_dec (Nat.lt_irrefl _), cond_false]
  · simp [runL]
theorem loop_total {T σ R : Type} {F : (T → Option R) → T → Option R} (len : Nat) (mk : Nat → σ → T) (I : Nat → σ → Prop)
    (h : ∀ r i s, i < len → I i s → (∃ v, F r (mk i s) = some v) ∨ ∃ s', F r (mk i s) = r (mk (i + 1) s') ∧ I (i + 1) s') (hE : ∀ r s, I len s → ∃ v, F r (mk len s) = some v) : ∀ m i s, i ≤ len → len - i < m → I i s → ∃ v, loopF F m (mk i s) = some v := by
  intro m
  induction m with
  | zero => intro i s _ h; omega
  | succ m ih =>
    intro i s hi hm hs
    show ∃ v, F (loopF F m) (mk i s) = some v
    by_cases hlt : i < len
    · rcases h (loopF F m) i s hlt hs with h1 | ⟨s', h1, h2⟩
      · exact h1
      · rw [h1]; exact ih (i + 1) s' (by omega) (by omega) h2
    · obtain rfl : i = len := by omega
      exact hE _ s hs
/-- Whether a joined page rises: it answers. -/
theorem rises2_total (n : Nat) (hn : 1003 ≤ n) (c : Content) (hc : Fine c) : ∃ b, page_rises_l2 n n (c.kids, (c.kids.length : Int), 0, c, [], ()) = some b := by
  have hl := hc.kids
  show ∃ b, page_rises_l2 n n (c.kids, (c.kids.length : Int), ((0 : Nat) : Int), c, [], ()) = some b
  unfold page_rises_l2
  refine loop_total c.kids.length (fun (i : Nat) (q : List (Int × Bool)) => (c.kids, (c.kids.length : Int), (i : Int), c, q, ())) (fun i q => q.length ≤ i) (fun r i q hi hq => ?_) (fun r q hq => ?_) n 0 [] (by omega) (by omega) (by simp)
  · have hx := get_some hi
    have hk := hc.page _ (List.getElem_mem hi)
    have h1 : mlook .i64 false q c.kids[i].page = some (mget false q c.kids[i].page) := by unfold mlook; rw [hk]
    have h2 : mput .i64 q c.kids[i].page true = some ((c.kids[i].page, true) :: q) := by unfold mput; rw [hk, Bool.true_and, show Nat.ble q.length 1000000 = true from Nat.ble_eq_true_of_le (by omega)]
    simp only [lt_dec hi, cond_true, idx_nat, hx, Option.bind_some, h1, h2, jn, wrap_succ (show i < 4611686018427387904 by omega)]
    cases mget false q c.kids[i].page with
    | true => exact .inl ⟨false, rfl⟩
    | false =>
      cases i with
      | zero => exact .inr ⟨_, rfl, by simpa using hq⟩
      | succ i =>
        have hi' : c.kids[i]? = some c.kids[i] := get_some (by omega)
        have h0 : decide (((i + 1 : Nat) : Int) > 0) = true := decide_eq_true (by omega)
        simp only [cond_false, h0, cond_true, wrap_pred (show i < 4611686018427387904 by omega), idx_nat, hi', Option.bind_some, compare_eq n (by omega)]
        cases decide (cmpK c.kids[i].least c.kids[i + 1].least ≥ 0) with
        | true => exact .inl ⟨false, rfl⟩
        | false => exact .inr ⟨_, rfl, by simp; omega⟩
  · simp only [ge_dec (Nat.lt_irrefl _), cond_false]
    exact ⟨true, rfl⟩
theorem prises_total (n : Nat) (hn : 1003 ≤ n) (c : Content) (hc : Fine c) : ∃ b, page_rises n c = some b := by
  have hl := hc.rows
  show ∃ b, page_rises_l1 n n (((1 : Nat) : Int), c, ()) = some b
  unfold page_rises_l1
  refine loop_total (max 1 c.rows.length) (fun (i : Nat) (_ : Unit) => ((i : Int), c, ())) (fun i _ => 1 ≤ i) (fun r i s hi hs => ?_) (fun r s hs => ?_) n 1 () (by omega) (by omega) (Nat.le_refl 1)
  · have hi : i < c.rows.length := by omega
    obtain ⟨j, rfl⟩ : ∃ j, i = j + 1 := ⟨i - 1, by omega⟩
    have h1 := get_some (l := c.rows) (i := j) (by omega)
    have h2 := get_some hi
    simp only [lt_dec hi, cond_true, wrap_pred (show j < 4611686018427387904 by omega), idx_nat, h1, h2, Option.bind_some, compare_eq n (by omega), wrap_succ (show j + 1 < 4611686018427387904 by omega)]
    cases decide (cmpK c.rows[j].key c.rows[j + 1].key ≥ 0) with
    | true => exact .inl ⟨false, rfl⟩
    | false => exact .inr ⟨(), rfl, by omega⟩
  · have : ¬ max 1 c.rows.length < c.rows.length := by omega
    simp only [ge_dec this, cond_false]
    exact rises2_total n hn c hc
/-- What the last part answers: the two, or an error. -/
theorem level_j2 (n : Nat) (hn : 1003 ≤ n) (key : Key) (a b : Content) (k : Key) (j x y : Content) (hj : Fine j) (hx : Fine x) (hy : Fine y) : (∃ e, e ≠ 0 ∧ page_Level_j2 n (key, a, b, k, j, x, y, ()) = some (cont0, cont0, ⟨0, 0⟩, e)) ∨ (checkP x = true ∧ checkP y = true ∧ page_Level_j2 n (key, a, b, k, j, x, y, ()) = some (x, y, key, 0)) := by
  obtain ⟨v, hv⟩ := prises_total n hn j hj
  unfold page_Level_j2
  have hcm := comes_eq n hn [x, y] (by simp) (by intro c hc; simp at hc; rcases hc with rfl | rfl <;> assumption)
  simp only [hcm, Option.bind_some, jn, hv, page_Level_1, List.all_cons, List.all_nil, Bool.and_true]
  cases hcx : checkP x with
  | false => exact .inl ⟨2, by decide, rfl⟩
  | true =>
    cases hcy : checkP y with
    | false => exact .inl ⟨2, by decide, rfl⟩
    | true =>
      cases v with
      | false => exact .inl ⟨2, by decide, rfl⟩
      | true => exact .inr ⟨rfl, rfl, rfl⟩
/-- How many go to the left. -/
def cutM (a b : Content) : Nat := if sizeP a > sizeP b then sizeP a - 1 else sizeP a + 1
structure Levelled (a b x y : Content) (key : Key) : Prop where
  cx : checkP x = true
  cy : checkP y = true
  fx : Fine x
  fy : Fine y
  sx : sizeP x = cutM a b
  sy : sizeP y + cutM a b = sizeP a + sizeP b
  leaf : a.kind = 1 → x.rows ++ y.rows = a.rows ++ b.rows ∧ ∃ r t, y.rows = r :: t ∧ r.key = key
  inner : a.kind ≠ 1 → pagesP x.kids ++ pagesP y.kids = pagesP a.kids ++ pagesP b.kids
theorem cmpEq {a b : Int} {A B : Content} : decide (((sizeP A : Nat) : Int) > ((sizeP B : Nat) : Int)) = decide (sizeP A > sizeP B) := by
  by_cases h : sizeP A > sizeP B
  · rw [decide_eq_true h, decide_eq_true (by omega)]
  · rw [decide_eq_false h, decide_eq_false (by omega)]
theorem alike_eq (n : Nat) (a b : Content) : page_alike n a b = some (decide (a.kind = b.kind) && !decide (a.kind = 0)) := by
  unfold page_alike
  have h3 : (a.kind != 0) = !decide (a.kind = 0) := by rw [bne, ibeq]
  simp only [jn, ibeq, h3]
  cases decide (a.kind = b.kind) <;> rfl
theorem kinds_of {c : Content} (h : checkP c = true) (h0 : c.kind ≠ 0) : (c.kind = 1 ∧ c.kids = [] ∧ c.rows.length ≤ 4) ∨ (c.kind = 2 ∧ c.rows = [] ∧ 2 ≤ c.kids.length ∧ c.kids.length ≤ 4) := by
  unfold checkP at h
  rw [if_neg h0] at h
  by_cases h1 : c.kind = 1
  · rw [if_pos h1] at h
    simp only [Bool.and_eq_true, decide_eq_true_iff] at h
    exact .inl ⟨h1, List.eq_nil_of_length_eq_zero h.1, h.2.1⟩
  · rw [if_neg h1] at h
    by_cases h2 : c.kind = 2
    · rw [if_pos h2] at h
      simp only [Bool.and_eq_true, decide_eq_true_iff] at h
      exact .inr ⟨h2, List.eq_nil_of_length_eq_zero h.1, h.2.1, h.2.2.1⟩
    · rw [if_neg h2] at h; cases h
def key0' : Key := ⟨0, 0⟩
def Lv (n : Nat) (a b : Content) (r : Option (Content × Content × Key × Int)) : Prop := (∃ e, e ≠ 0 ∧ r = some (cont0, cont0, ⟨0, 0⟩, e)) ∨ ∃ x y key, Levelled a b x y key ∧ r = some (x, y, key, 0)
theorem level_leaf (n : Nat) (hn : 1003 ≤ n) (ra rb : List Row) (k z : Key) (u v : Content) (hra : ra.length ≤ 4) (hrb : rb.length ≤ 4) (m : Nat) (hm : m = cutM ⟨1, ra, []⟩ ⟨1, rb, []⟩) (hne : ra.length ≠ rb.length) :
    Lv n ⟨1, ra, []⟩ ⟨1, rb, []⟩ (page_Level_j1 n ((m : Int), ⟨1, ra, []⟩, ⟨1, rb, []⟩, k, u, v, z, ())) := by
  have hlen : m ≤ (ra ++ rb).length := by
    subst hm
    have e1 : sizeP ⟨1, ra, []⟩ = ra.length := by simp [sizeP]
    have e2 : sizeP ⟨1, rb, []⟩ = rb.length := by simp [sizeP]
    rw [List.length_append]
    unfold cutM
    split <;> omega
  have hjo : page_joined n ⟨1, ra, []⟩ ⟨1, rb, []⟩ k = some ⟨1, ra ++ rb, []⟩ := by
    unfold page_joined
    simp only [show ((1 : Int) == 1) = true from by decide, cond_true]
    rw [concatR_eq n hn ra rb (by omega) (by omega)]
    rfl
  have hl2 : (ra ++ rb).length = ra.length + rb.length := by simp
  unfold page_Level_j1
  dsimp only
  rw [hjo]
  simp only [Option.bind_some, jn, show ((1 : Int) == 1) = true from by decide, cond_true, cutR_eq n (ra ++ rb) (by omega) m hlen]
  cases hd : (ra ++ rb).drop m with
  | nil => exact .inl ⟨2, by decide, rfl⟩
  | cons r t =>
    have hz : (((r :: t).length : Int) == 0) = false := by simp; omega
    have hfx : Fine ⟨1, (ra ++ rb).take m, []⟩ := ⟨by simp; omega, by simp, by simp⟩
    have hdl : (r :: t).length + m = ra.length + rb.length := by rw [← hd, List.length_drop]; omega
    have hfy : Fine ⟨1, r :: t, []⟩ := ⟨by show (r :: t).length ≤ 1000; omega, by simp, by simp⟩
    have hfj : Fine ⟨1, ra ++ rb, []⟩ := ⟨by show (ra ++ rb).length ≤ 1000; omega, by simp, by simp⟩
    simp only [hz, cond_false, page_leaf, Option.bind_some, show idx (r :: t) 0 = some r from idx_zero _]
    rcases level_j2 n hn r.key u v z ⟨1, ra ++ rb, []⟩ ⟨1, (ra ++ rb).take m, []⟩ ⟨1, r :: t, []⟩ hfj hfx hfy with ⟨e, he, h⟩ | ⟨cx, cy, h⟩
    · exact .inl ⟨e, he, h⟩
    · refine .inr ⟨_, _, _, ⟨cx, cy, hfx, hfy, ?_, ?_, fun _ => ⟨?_, r, t, rfl, rfl⟩, fun h => absurd rfl h⟩, h⟩
      · rw [← hm]; simp only [sizeP, List.length_take, List.length_nil]; omega
      · rw [← hm]; simp only [sizeP, List.length_nil]; omega
      · show (ra ++ rb).take m ++ r :: t = ra ++ rb
        rw [← hd, List.take_append_drop]
theorem level_inner (n : Nat) (hn : 1003 ≤ n) (ka : List Kid) (w : Kid) (kt : List Kid) (k z : Key) (u v : Content) (hka : ka.length ≤ 4) (hkt : kt.length ≤ 3) (ha2 : 2 ≤ ka.length) (hb2 : 1 ≤ kt.length) (hA : Fine ⟨2, [], ka⟩) (hB : Fine ⟨2, [], w :: kt⟩) (m : Nat) (hm : m = cutM ⟨2, [], ka⟩ ⟨2, [], w :: kt⟩) (hne : ka.length ≠ kt.length + 1) :
    Lv n ⟨2, [], ka⟩ ⟨2, [], w :: kt⟩ (page_Level_j1 n ((m : Int), ⟨2, [], ka⟩, ⟨2, [], w :: kt⟩, k, u, v, z, ())) := by
  let J : List Kid := ka ++ ⟨k, w.page⟩ :: kt
  have hJl : J.length = ka.length + kt.length + 1 := by simp [J]; omega
  have hlen : m < J.length := by
    subst hm
    have e1 : sizeP ⟨2, [], ka⟩ = ka.length := by simp [sizeP]
    have e2 : sizeP ⟨2, [], w :: kt⟩ = kt.length + 1 := by simp [sizeP]
    unfold cutM
    split <;> omega
  have hJk : ∀ x ∈ J, keyIn .i64 x.page = true := fun x hx => by
    simp only [J, List.mem_append, List.mem_cons] at hx
    rcases hx with h | rfl | h
    · exact hA.page x h
    · exact hB.page w (by simp)
    · exact hB.page x (by simp [h])
  have hjo : page_joined n ⟨2, [], ka⟩ ⟨2, [], w :: kt⟩ k = some ⟨2, [], J⟩ := by
    unfold page_joined
    simp only [show ((2 : Int) == 1) = false from by decide, cond_false]
    rw [cloneK_eq n (w :: kt) (by simp; omega)]
    simp only [Option.bind_some, first_eq]
    rw [concatK_eq n hn ka (⟨k, w.page⟩ :: kt) (by omega) (by simp; omega)]
    rfl
  unfold page_Level_j1
  dsimp only
  rw [hjo]
  simp only [Option.bind_some, jn, show ((2 : Int) == 1) = false from by decide, cond_false, cutK_eq n J (by omega) m (by omega)]
  cases hd : J.drop m with
  | nil => have := congrArg List.length hd; rw [List.length_drop] at this; simp at this; omega
  | cons r t =>
    have hdl : (r :: t).length + m = ka.length + kt.length + 1 := by rw [← hd, List.length_drop]; omega
    have hmem : ∀ x ∈ r :: t, keyIn .i64 x.page = true := fun x hx => hJk x (List.mem_of_mem_drop (hd ▸ hx))
    have hfx : Fine ⟨2, [], J.take m⟩ := ⟨by simp, by show (J.take m).length ≤ 1000; rw [List.length_take]; omega, fun x hx => hJk x (List.mem_of_mem_take hx)⟩
    have hfy : Fine ⟨2, [], ⟨⟨0, 0⟩, r.page⟩ :: t⟩ := ⟨by simp, by simp at hdl ⊢; omega, fun x hx => by
      rcases List.mem_cons.1 hx with rfl | hx
      · exact hmem r (by simp)
      · exact hmem x (by simp [hx])⟩
    have hfj : Fine ⟨2, [], J⟩ := ⟨by simp, by show J.length ≤ 1000; omega, hJk⟩
    simp only [Option.bind_some, first_eq, page_inner]
    rcases level_j2 n hn r.least u v z ⟨2, [], J⟩ ⟨2, [], J.take m⟩ ⟨2, [], ⟨⟨0, 0⟩, r.page⟩ :: t⟩ hfj hfx hfy with ⟨e, he, h⟩ | ⟨cx, cy, h⟩
    · exact .inl ⟨e, he, h⟩
    · refine .inr ⟨_, _, _, ⟨cx, cy, hfx, hfy, ?_, ?_, fun h => absurd h (by show ¬ (2 : Int) = 1; decide), fun _ => ?_⟩, h⟩
      · rw [← hm]; simp only [sizeP, List.length_take, List.length_nil]; omega
      · rw [← hm]; simp only [sizeP, List.length_nil, List.length_cons] at hdl ⊢; omega
      · have h1 : pagesP J = pagesP ka ++ pagesP (w :: kt) := by simp [J, pagesP]
        have h2 : pagesP (⟨⟨0, 0⟩, r.page⟩ :: t) = pagesP (J.drop m) := by rw [hd]; simp [pagesP]
        show pagesP (J.take m) ++ pagesP (⟨⟨0, 0⟩, r.page⟩ :: t) = pagesP ka ++ pagesP (w :: kt)
        rw [h2, ← h1]
        unfold pagesP
        rw [← List.map_append, List.take_append_drop]
theorem level_cases (n : Nat) (hn : 1003 ≤ n) (a b : Content) (k : Key) (ha : Fine a) (hb : Fine b) : (∃ e, e ≠ 0 ∧ page_Level n a b k = some (cont0, cont0, ⟨0, 0⟩, e)) ∨
    ∃ x y key, Levelled a b x y key ∧ checkP a = true ∧ checkP b = true ∧ sizeP a ≤ 4 ∧ sizeP b ≤ 4 ∧ sizeP a ≠ sizeP b ∧ page_Level n a b k = some (x, y, key, 0) := by
  unfold page_Level
  rw [asked_eq n hn [a, b] (by simp) (by intro c hc; simp at hc; rcases hc with rfl | rfl <;> assumption)]
  by_cases hall : [a, b].all checkP = true
  · simp only [hall, if_true, Option.bind_some, show ((0 : Int) != 0) = false from by decide, cond_false, alike_eq, jn]
    have hall' := hall
    simp only [List.all_cons, List.all_nil, Bool.and_true, Bool.and_eq_true] at hall'
    obtain ⟨ca, cb⟩ := hall'
    by_cases hal : a.kind = b.kind ∧ a.kind ≠ 0
    · rw [decide_eq_true hal.1, decide_eq_false hal.2]
      simp only [Bool.not_false, Bool.and_true, Bool.not_true, cond_false, size_eq n a ha, size_eq n b hb, Option.bind_some]
      rw [show (((sizeP a : Nat) : Int) == ((sizeP b : Nat) : Int)) = decide (sizeP a = sizeP b) from ieq4]
      by_cases hs : sizeP a = sizeP b
      · rw [decide_eq_true hs]
        exact .inl ⟨2, by decide, rfl⟩
      · rw [decide_eq_false hs]
        simp only [cond_false, cmpEq (a := 0) (b := 0)]
        have hgo : ∀ u v z, Lv n a b (page_Level_j1 n ((cutM a b : Nat), a, b, k, u, v, z, ())) ∧ sizeP a ≤ 4 ∧ sizeP b ≤ 4 := by
          intro u v z
          rcases kinds_of ca hal.2 with ⟨h1, h2, h3⟩ | ⟨h1, h2, h3, h4⟩
          · rcases kinds_of cb (by rw [← hal.1]; exact hal.2) with ⟨g1, g2, g3⟩ | ⟨g1, _⟩
            · obtain ⟨ak, ar, aq⟩ := a
              obtain ⟨bk, br, bq⟩ := b
              simp only at h1 h2 h3 g1 g2 g3
              subst h1 h2 g1 g2
              exact ⟨level_leaf n hn ar br k z u v h3 g3 _ rfl (by simpa [sizeP] using hs), by simpa [sizeP] using h3, by simpa [sizeP] using g3⟩
            · rw [h1, g1] at hal; exact absurd hal.1 (by decide)
          · rcases kinds_of cb (by rw [← hal.1]; exact hal.2) with ⟨g1, _⟩ | ⟨g1, g2, g3, g4⟩
            · rw [h1, g1] at hal; exact absurd hal.1 (by decide)
            · obtain ⟨ak, ar, aq⟩ := a
              obtain ⟨bk, br, bq⟩ := b
              simp only at h1 h2 h3 h4 g1 g2 g3 g4
              subst h1 h2 g1 g2
              cases bq with
              | nil => simp at g3
              | cons w kt => exact ⟨level_inner n hn aq w kt k z u v h4 (by simpa using g4) h3 (by simpa using g3) ha hb _ rfl (by simpa [sizeP] using hs), by simpa [sizeP] using h4, by simpa [sizeP] using g4⟩
        have hcut : cond (decide (sizeP a > sizeP b))
            (page_Level_j1 n ((IntKind.wrap .i64 ((sizeP a : Nat) - 1)), a, b, k, (Content.mk 0 ([] : List Row) ([] : List Kid)), (Content.mk 0 ([] : List Row) ([] : List Kid)), (Key.mk 0 0), ()))
            (page_Level_j1 n ((IntKind.wrap .i64 ((sizeP a : Nat) + 1)), a, b, k, (Content.mk 0 ([] : List Row) ([] : List Kid)), (Content.mk 0 ([] : List Row) ([] : List Kid)), (Key.mk 0 0), ())) = page_Level_j1 n ((cutM a b : Nat), a, b, k, (Content.mk 0 ([] : List Row) ([] : List Kid)), (Content.mk 0 ([] : List Row) ([] : List Kid)), (Key.mk 0 0), ()) := by
          have hsz := (hgo cont0 cont0 key0).2
          unfold cutM
          by_cases h : sizeP a > sizeP b
          · rw [decide_eq_true h, if_pos h, cond_true, wrap_in (by omega)]
            congr 2; omega
          · rw [decide_eq_false h, if_neg h, cond_false, wrap_in (by omega)]
            congr 2
        rw [hcut]
        obtain ⟨hl, s1, s2⟩ := hgo (Content.mk 0 ([] : List Row) ([] : List Kid)) (Content.mk 0 ([] : List Row) ([] : List Kid)) (Key.mk 0 0)
        rcases hl with h | ⟨x, y, key, h1, h2⟩
        · exact .inl h
        · exact .inr ⟨x, y, key, h1, ca, cb, s1, s2, hs, h2⟩
    · have : (decide (a.kind = b.kind) && !decide (a.kind = 0)) = false := by
        by_cases h1 : a.kind = b.kind
        · by_cases h2 : a.kind = 0
          · rw [decide_eq_true h2]; simp
          · exact absurd ⟨h1, h2⟩ hal
        · rw [decide_eq_false h1]; rfl
      rw [this]
      exact .inl ⟨2, by decide, rfl⟩
  · have hall : [a, b].all checkP = false := by simpa using hall
    rw [hall]
    exact .inl ⟨160, by decide, rfl⟩
/-- Joined ones have all of both. -/
theorem join_size (n : Nat) (hn : 1003 ≤ n) (a b : Content) (k : Key) (ha : Fine a) (hb : Fine b) : (∃ j e, e ≠ 0 ∧ page_Join n a b k = some (j, e)) ∨ ∃ j, Fine j ∧ checkP j = true ∧ checkP a = true ∧ checkP b = true ∧ sizeP j = sizeP a + sizeP b ∧ page_Join n a b k = some (j, 0) := by
  unfold page_Join
  rw [asked_eq n hn [a, b] (by simp) (by intro c hc; simp at hc; rcases hc with rfl | rfl <;> assumption)]
  by_cases hall : [a, b].all checkP = true
  · simp only [hall, if_true, Option.bind_some, show ((0 : Int) != 0) = false from by decide, cond_false, alike_eq, size_eq n a ha, size_eq n b hb]
    simp only [List.all_cons, List.all_nil, Bool.and_true, Bool.and_eq_true] at hall
    obtain ⟨ca, cb⟩ := hall
    by_cases hal : a.kind = b.kind ∧ a.kind ≠ 0
    · rw [decide_eq_true hal.1, decide_eq_false hal.2]
      simp only [Bool.not_false, Bool.and_true, Bool.not_true, cond_false]
      cases decide (IntKind.wrap .i64 (((sizeP a : Nat) : Int) + ((sizeP b : Nat) : Int)) > 4) with
      | true => exact .inl ⟨_, 6, by decide, rfl⟩
      | false =>
        have hfin : ∀ j, Fine j → sizeP j = sizeP a + sizeP b → page_joined n a b k = some j → (∃ j e, e ≠ 0 ∧ ((page_joined n a b k).bind fun y5 => (page_one n y5).bind fun y6 => some (y6.1, y6.2)) = some (j, e)) ∨ ∃ j, Fine j ∧ checkP j = true ∧ checkP a = true ∧ checkP b = true ∧ sizeP j = sizeP a + sizeP b ∧ ((page_joined n a b k).bind fun y5 => (page_one n y5).bind fun y6 => some (y6.1, y6.2)) = some (j, 0) := by
          intro j hj hs hjo
          rw [hjo]
          by_cases hc : checkP j = true
          · exact .inr ⟨j, hj, hc, ca, cb, hs, by simp only [Option.bind_some, one_eq n hn j hj hc]⟩
          · have hc : checkP j = false := by simpa using hc
            refine .inl ⟨cont0, 2, by decide, ?_⟩
            simp only [Option.bind_some]
            unfold page_one
            rw [comes_eq n hn [j] (by simp) (by intro d hd; simp at hd; subst hd; exact hj)]
            simp only [List.all_cons, List.all_nil, hc, Bool.false_and]
            rfl
        rcases kinds_of ca hal.2 with ⟨h1, h2, h3⟩ | ⟨h1, h2, h3, h4⟩
        · rcases kinds_of cb (by rw [← hal.1]; exact hal.2) with ⟨g1, g2, g3⟩ | ⟨g1, _⟩
          · refine hfin ⟨1, a.rows ++ b.rows, []⟩ ⟨by simp; omega, by simp, by simp⟩ ?_ ?_
            · simp [sizeP, h2, g2]
            · unfold page_joined
              simp only [h1, show ((1 : Int) == 1) = true from by decide, cond_true]
              rw [concatR_eq n hn a.rows b.rows (by omega) (by omega)]
              rfl
          · rw [h1, g1] at hal; exact absurd hal.1 (by decide)
        · rcases kinds_of cb (by rw [← hal.1]; exact hal.2) with ⟨g1, _⟩ | ⟨g1, g2, g3, g4⟩
          · rw [h1, g1] at hal; exact absurd hal.1 (by decide)
          · cases hbk : b.kids with
            | nil => rw [hbk] at g3; simp at g3
            | cons w kt =>
              rw [hbk] at g3 g4
              refine hfin ⟨2, [], a.kids ++ ⟨k, w.page⟩ :: kt⟩ ⟨by simp, by simp at g4 ⊢; omega, fun x hx => ?_⟩ ?_ ?_
              · simp only [List.mem_append, List.mem_cons] at hx
                rcases hx with h | rfl | h
                · exact ha.page x h
                · exact hb.page w (by rw [hbk]; simp)
                · exact hb.page x (by rw [hbk]; simp [h])
              · simp [sizeP, h2, g2, hbk]
              · unfold page_joined
                simp only [h1, show ((2 : Int) == 1) = false from by decide, cond_false]
                rw [hbk, cloneK_eq n (w :: kt) (by simp at g4 ⊢; omega)]
                simp only [Option.bind_some, first_eq]
                rw [concatK_eq n hn a.kids (⟨k, w.page⟩ :: kt) (by omega) (by simp at g4 ⊢; omega)]
                rfl
    · have : (decide (a.kind = b.kind) && !decide (a.kind = 0)) = false := by
        by_cases h1 : a.kind = b.kind
        · by_cases h2 : a.kind = 0
          · rw [decide_eq_true h2]; simp
          · exact absurd ⟨h1, h2⟩ hal
        · rw [decide_eq_false h1]; rfl
      rw [this]
      exact .inl ⟨_, 2, by decide, rfl⟩
  · have hall : [a, b].all checkP = false := by simpa using hall
    rw [hall]
    exact .inl ⟨_, 160, by decide, rfl⟩
theorem plainPageLevels (a b : Content) (k : Key) (h1 : okT tab 9 (.st 3) a) (h2 : okT tab 9 (.st 3) b) (h3 : okT tab 9 (.st 0) k) : ∃ n, law11_PageLevels n a b k = some true := by
  refine ⟨2000, ?_⟩
  have hn : 1003 ≤ 2000 := by decide
  unfold law11_PageLevels
  rw [wakes]
  simp only [Option.bind_some, Bool.not_true, cond_false]
  rw [over_eq 2000 hn [a, b] (by simp)]
  simp only [List.any_cons, List.any_nil, Bool.or_false, Option.bind_some]
  cases ho : (overC a || overC b) with
  | true => rfl
  | false =>
    simp only [Bool.or_eq_false_iff] at ho
    have ha := fine_of h1 ho.1
    have hb := fine_of h2 ho.2
    have hz : sizeP cont0 = 0 := rfl
    have hc0 : checkP cont0 = true := by simp [checkP, cont0]
    have hgo : ∀ y, page_Level 2000 a b k = some y → (cond (y.2.2.2 != 0)
              ((page_Size 2000 y.1).bind fun y7 =>
              (page_Size 2000 y.2.1).bind fun y8 =>
              some ((IntKind.wrap .i64 (y7 + y8)) == 0))
              ((page_Size 2000 y.1).bind fun y9 =>
              (page_Size 2000 y.2.1).bind fun y10 =>
              (page_Size 2000 a).bind fun y11 =>
              (page_Size 2000 b).bind fun y12 =>
              (page_Size 2000 y.1).bind fun y13 =>
              (page_Size 2000 y.2.1).bind fun y14 =>
              (page_Size 2000 a).bind fun y15 =>
              (page_Size 2000 b).bind fun y16 =>
              jn (fun (b17 : Bool) =>
                  jn (fun (b19 : Bool) =>
                      jn (fun (b21 : Bool) =>
                          cond b21
                            (some false)
                            (cond (a.kind == 1)
                              ((slices_Concat_Row 2000 ([y.1.rows, y.2.1.rows] : List (List Row))).bind fun y23 =>
                              (slices_Concat_Row 2000 ([a.rows, b.rows] : List (List Row))).bind fun y24 =>
                              (slices_Equal_Row 2000 y23 y24).bind fun y25 =>
                              jn (fun (b26 : Bool) =>
                                  some b26) fun k27 =>
                              cond y25
                                ((idx y.2.1.rows 0).bind fun x28 =>
                                k27 (Key.eqb x28.key y.2.2.1))
                                (k27 false))
                              ((law11_PageLevels_1 2000 ([y.1, y.2.1] : List Content)).bind fun y29 =>
                              (law11_PageLevels_1 2000 ([a, b] : List Content)).bind fun y30 =>
                              (slices_Equal_int 2000 y29 y30).bind fun y31 =>
                              some y31))) fun k22 =>
                      cond b19
                        (k22 true)
                        ((codec_Check 2000 y.2.1).bind fun y32 =>
                        k22 (y32 != 0))) fun k20 =>
                  cond b17
                    (k20 true)
                    ((codec_Check 2000 y.1).bind fun y33 =>
                    k20 (y33 != 0))) fun k18 =>
              cond ((IntKind.wrap .i64 (y13 + y14)) != (IntKind.wrap .i64 (y15 + y16)))
                (k18 true)
                (jn (fun (b34 : Bool) =>
                    k18 b34) fun k35 =>
                cond (decide ((IntKind.wrap .i64 ((IntKind.wrap .i64 (y9 - y10)) * (IntKind.wrap .i64 (y9 - y10)))) ≥ (IntKind.wrap .i64 ((IntKind.wrap .i64 (y11 - y12)) * (IntKind.wrap .i64 (y11 - y12))))))
                  (k35 ((IntKind.wrap .i64 ((IntKind.wrap .i64 (y11 - y12)) * (IntKind.wrap .i64 (y11 - y12)))) != 1))
                  (k35 false)))) = some true := by
      intro y hy
      rcases level_cases 2000 hn a b k ha hb with ⟨e, he, h⟩ | ⟨x, z, key, hL, ca, cb, sa, sb, hs, h⟩
      · rw [h] at hy
        obtain rfl := Option.some.inj hy
        simp only [show (e != 0) = true from by simpa using he, cond_true, Size_eq 2000 hn cont0 fine0, hc0, if_true, Option.bind_some, hz]
        rfl
      · rw [h] at hy
        obtain rfl := Option.some.inj hy
        have q1 := hL.sx
        have q2 := hL.sy
        simp only [show ((0 : Int) != 0) = false from by decide, cond_false, Size_eq 2000 hn a ha, Size_eq 2000 hn b hb, Size_eq 2000 hn x hL.fx, Size_eq 2000 hn z hL.fy, ca, cb, hL.cx, hL.cy, if_true, Option.bind_some, jn, check_eq 2000 hn x hL.fx, check_eq 2000 hn z hL.fy]
        have hsum : sizeP x + sizeP z = sizeP a + sizeP b := by unfold cutM at q1 q2; split at q1 <;> split at q2 <;> omega
        have e1 : (IntKind.wrap .i64 (((sizeP x : Nat) : Int) + ((sizeP z : Nat) : Int)) != IntKind.wrap .i64 (((sizeP a : Nat) : Int) + ((sizeP b : Nat) : Int))) = false := by
          rw [show (((sizeP x : Nat) : Int) + ((sizeP z : Nat) : Int)) = (((sizeP a : Nat) : Int) + ((sizeP b : Nat) : Int)) from by omega]
          simp
        rw [e1]
        -- the squares
        have e2 : decide ((IntKind.wrap .i64 ((IntKind.wrap .i64 (((sizeP x : Nat) : Int) - ((sizeP z : Nat) : Int))) * (IntKind.wrap .i64 (((sizeP x : Nat) : Int) - ((sizeP z : Nat) : Int))))) ≥ (IntKind.wrap .i64 ((IntKind.wrap .i64 (((sizeP a : Nat) : Int) - ((sizeP b : Nat) : Int))) * (IntKind.wrap .i64 (((sizeP a : Nat) : Int) - ((sizeP b : Nat) : Int)))))) = false ∨
            ((IntKind.wrap .i64 ((IntKind.wrap .i64 (((sizeP a : Nat) : Int) - ((sizeP b : Nat) : Int))) * (IntKind.wrap .i64 (((sizeP a : Nat) : Int) - ((sizeP b : Nat) : Int))))) != 1) = false := by
          have hx : sizeP x = cutM a b := q1
          have hz' : sizeP z = sizeP a + sizeP b - cutM a b := by omega
          have ha4 : sizeP a = 0 ∨ sizeP a = 1 ∨ sizeP a = 2 ∨ sizeP a = 3 ∨ sizeP a = 4 := by omega
          have hb4 : sizeP b = 0 ∨ sizeP b = 1 ∨ sizeP b = 2 ∨ sizeP b = 3 ∨ sizeP b = 4 := by omega
          unfold cutM at hx hz'
          generalize sizeP a = A at *
          generalize sizeP b = B at *
          generalize sizeP x = X at *
          generalize sizeP z = Z at *
          rcases ha4 with rfl | rfl | rfl | rfl | rfl <;> rcases hb4 with rfl | rfl | rfl | rfl | rfl <;> first | exact absurd rfl hs | (simp at hx hz'; subst hx hz'; decide)
        have lx : sizeP x ≤ 8 := by omega
        have lz : sizeP z ≤ 8 := by omega
        unfold sizeP at sa sb lx lz
        rcases e2 with e2 | e2 <;> simp only [cond_false, e2, Bool.cond_self, show ((0 : Int) != 0) = false from by decide, ibeq a.kind]
        all_goals
          by_cases hk : a.kind = 1
          · obtain ⟨g1, r, t, g2, g3⟩ := hL.leaf hk
            rw [decide_eq_true hk, cond_true, concatR_eq 2000 hn x.rows z.rows (by omega) (by omega), concatR_eq 2000 hn a.rows b.rows (by omega) (by omega), g1]
            simp only [Option.bind_some, equalR 2000 hn (a.rows ++ b.rows) (by simp; omega), cond_true, g2, show idx (r :: t) 0 = some r from idx_zero _, g3]
            rw [key_eqb, decide_eq_true rfl]
          · rw [decide_eq_false hk, cond_false, pages_eq 2000 hn x z (by omega) (by omega), pages_eq 2000 hn a b (by omega) (by omega), hL.inner hk]
            simp only [Option.bind_some]
            rw [equalI 2000 hn _ (by simp [pagesP]; omega)]
            rfl
    have hlev : ∃ y, page_Level 2000 a b k = some y := by
      rcases level_cases 2000 hn a b k ha hb with ⟨e, he, h⟩ | ⟨x, z, key, hL, ca, cb, sa, sb, hs, h⟩ <;> exact ⟨_, h⟩
    obtain ⟨y, hy⟩ := hlev
    have hgy := hgo y hy
    simp only [jn] at hgy
    simp only [cond_false]
    rcases join_size 2000 hn a b k ha hb with ⟨j, e, he, h⟩ | ⟨j, hj, cj, ca, cb, hs, h⟩
    · rw [h]
      simp only [Option.bind_some, show (e == 0) = false from by simpa using he, cond_false, jn, hy]
      exact hgy
    · rw [h]
      have e3 : (((sizeP j : Nat) : Int) != IntKind.wrap .i64 (((sizeP a : Nat) : Int) + ((sizeP b : Nat) : Int))) = false := by
        have := hj.rows
        have := hj.kids
        unfold sizeP at hs
        rw [wrap_in (by unfold sizeP; omega)]
        unfold sizeP
        simp; omega
      simp only [Option.bind_some, show ((0 : Int) == 0) = true from by decide, cond_true, Size_eq 2000 hn a ha, Size_eq 2000 hn b hb, Size_eq 2000 hn j hj, ca, cb, cj, if_true, e3, cond_false, jn, hy]
      simp only [Option.bind_some, show ((0 : Int) == 0) = true from by decide, cond_true, Size_eq 2000 hn a ha, Size_eq 2000 hn b hb, ca, cb, if_true, cond_false] at hgy ⊢
      exact hgy
end Go.Proofs.Ytjgcapbmhcmcfaa
