/- Layer 11: the plain law PageLeaves. -/
import Derived.Test.YtjgcapbmhcmcfaaPlainR
namespace Go.Proofs.Ytjgcapbmhcmcfaa
open Go.Bur
set_option linter.unusedSimpArgs false
set_option linter.unusedVariables false
set_option maxRecDepth 100000

structure Keys (c : Content) : Prop where
  rows : ∀ r ∈ c.rows, KeyIn r.key
  kids : ∀ k ∈ c.kids, KeyIn k.least
theorem right_eq (n : Nat) (hn : 1003 ≤ n) (c : Content) (hc : Fine c) (hk : Keys c) : ref06_Right n c = some (checkP c) := by
  have h1 := rrows_eq n hn c.rows hc.rows hk.rows
  have h2 := rkids_eq n hn c.kids hc.kids hk.kids
  unfold ref06_Right checkP
  simp only [jn, h1, h2, Option.bind_some, beq0, ibeq c.kind]
  by_cases e0 : c.kind = 0
  · rw [if_pos e0, decide_eq_true e0]
    by_cases a : c.rows.length = 0
    · by_cases b : c.kids.length = 0
      · simp [a, b]
      · simp [a, b]
    · simp [a]
  · rw [if_neg e0, decide_eq_false e0]
    by_cases e1 : c.kind = 1
    · rw [if_pos e1, decide_eq_true e1]
      cases decide (c.kids.length = 0) <;> rfl
    · rw [if_neg e1, decide_eq_false e1]
      by_cases e2 : c.kind = 2
      · rw [if_pos e2, decide_eq_true e2]
        cases decide (c.rows.length = 0) <;> cases decide (1 < c.kids.length) <;> cases decide (c.kids.length ≤ 4) <;> rfl
      · rw [if_neg e2, decide_eq_false e2]; rfl
theorem rsame_refl (n : Nat) (hn : 1003 ≤ n) (c : Content) (hc : Fine c) : law11_same n c c = some true := by
  have h2 : ref06_Same_l2 n n ((c.kids.length : Int), 0, c, c, ()) = some true := by
    show ref06_Same_l2 n n ((c.kids.length : Int), ((0 : Nat) : Int), c, c, ()) = some true
    unfold ref06_Same_l2
    refine (run_loop c.kids (fun (i : Nat) (_ : Unit) => ((c.kids.length : Int), (i : Int), c, c, ())) (fun _ x s => .inr s) (fun _ => some true) (fun r i s x hx hi => ?_) (fun r s => ?_) n 0 () (by omega) (by have := hc.kids; omega)).trans ?_
    · simp only [lt_dec hi, cond_true, idx_nat, hx, Option.bind_some, eqb_kid, Bool.not_true, cond_false, wrap_succ (show i < 4611686018427387904 by have := hc.kids; omega)]
    · simp only [ge_dec (Nat.lt_irrefl _), cond_false]
    · exact runL_skip _ _
  have h1 : ref06_Same_l1 n n ((c.rows.length : Int), 0, c, c, ()) = some true := by
    show ref06_Same_l1 n n ((c.rows.length : Int), ((0 : Nat) : Int), c, c, ()) = some true
    unfold ref06_Same_l1
    refine (run_loop c.rows (fun (i : Nat) (_ : Unit) => ((c.rows.length : Int), (i : Int), c, c, ())) (fun _ x s => .inr s) (fun _ => some true) (fun r i s x hx hi => ?_) (fun r s => ?_) n 0 () (by omega) (by have := hc.rows; omega)).trans ?_
    · simp only [lt_dec hi, cond_true, idx_nat, hx, Option.bind_some, eqb_row, Bool.not_true, cond_false, wrap_succ (show i < 4611686018427387904 by have := hc.rows; omega)]
    · simp only [ge_dec (Nat.lt_irrefl _), cond_false]
      exact h2
    · exact runL_skip _ _
  unfold law11_same ref06_Same
  simp [jn, h1]
theorem none_eq (n : Nat) (hn : 1003 ≤ n) (l : List Content) (hl : l.length ≤ 1000) (h : ∀ c ∈ l, c = cont0) : law11_none n l = some true := by
  show law11_none_l1 n n (l, (l.length : Int), ((0 : Nat) : Int), ()) = _
  unfold law11_none_l1
  refine (run_loop l (fun (i : Nat) (_ : Unit) => (l, (l.length : Int), (i : Int), ())) (fun _ x s => .inr s) (fun _ => some true) (fun r i s x hx hi => ?_) (fun r s => ?_) n 0 () (by omega) (by omega)).trans ?_
  · have hx' := h x (List.mem_of_getElem? hx)
    subst hx'
    have hs := rsame_refl n hn cont0 fine0
    have hs' : law11_same n cont0 (Content.mk 0 ([] : List Row) ([] : List Kid)) = some true := hs
    simp only [lt_dec hi, cond_true, idx_nat, hx, Option.bind_some, hs', Bool.not_true, cond_false, wrap_succ (show i < 4611686018427387904 by omega)]
  · simp only [ge_dec (Nat.lt_irrefl _), cond_false]
  · exact runL_skip _ _
theorem rfind_eq (n : Nat) (hn : 1003 ≤ n) (l : List Row) (hl : l.length ≤ 1000) (k : Key) : ref05_Find n l k = some (ixI (at_ l k)) := by
  show ref05_Find_l1 n n (l, ((0 : Nat) : Int), k, ()) = _
  unfold ref05_Find_l1
  refine (run_loop l (fun (i : Nat) (_ : Unit) => (l, (i : Int), k, ())) (fun i x _ => if decide (x.key = k) then .inl (some (i : Int)) else .inr ()) (fun _ => some (-1)) (fun r i s x hx hi => ?_) (fun r s => ?_) n 0 () (by omega) (by omega)).trans ?_
  · simp only [lt_dec hi, cond_true, idx_nat, hx, Option.bind_some, wrap_succ (show i < 4611686018427387904 by omega), key_eqb]
    by_cases h : x.key = k
    · simp [h]
    · simp [h]
  · simp only [ge_dec (Nat.lt_irrefl _), cond_false]
  · rw [List.drop_zero, runL_find]
    unfold at_
    cases l.findIdx? fun r => decide (r.key = k) <;> rfl
def others (k : Key) (l : List Row) : List Row := l.filter fun r => !decide (r.key = k)
theorem without_eq (n : Nat) (hn : 1003 ≤ n) (l : List Row) (hl : l.length ≤ 1000) (k : Key) : ref05_Without n l k = some (others k l) := by
  show ref05_Without_l1 n n (l, ((0 : Nat) : Int), k, [], ()) = _
  unfold ref05_Without_l1
  refine (run_loopI l (fun (i : Nat) (s : List Row) => (l, (i : Int), k, s, ())) (fun i x s => .inr (if decide (x.key = k) then s else s ++ [x])) (fun s => some s) (fun i s => s.length ≤ i) (fun i s x s' hx hi hs => ?_) (fun r i s x hx hi hs => ?_) (fun r s hs => ?_) n 0 [] (by omega) (by omega) (by simp)).trans ?_
  · injection hs with hs
    subst hs
    by_cases h : x.key = k
    · simp [h]; omega
    · simp [h]; exact hi
  · have happ : app 40 s [x] = some (s ++ [x]) := app_lt (by simp; omega) (by decide)
    simp only [lt_dec hi, cond_true, idx_nat, hx, Option.bind_some, wrap_succ (show i < 4611686018427387904 by omega), key_eqb, jn, ref05_Without_j2, happ]
    by_cases h : x.key = k
    · simp [h]
    · simp [h]
  · simp only [ge_dec (Nat.lt_irrefl _), cond_false]
  · have : ∀ (t : List Row) (i : Nat) (s : List Row), runL (R := List Row) (fun i x s => .inr (if decide (x.key = k) then s else s ++ [x])) (fun s => some s) t i s = some (s ++ others k t) := by
      intro t
      induction t with
      | nil => intro i s; simp [runL, others]
      | cons x t ih =>
        intro i s
        simp only [runL]
        rw [ih]
        unfold others
        by_cases h : x.key = k
        · simp [h]
        · simp [h]
    rw [List.drop_zero, this]
    rfl
theorem rcompare_lt (n : Nat) (a b : Key) : ∃ v, ref05_Compare n a b = some v ∧ decide (v < 0) = ltK a b := by
  unfold ref05_Compare
  rw [key_eqb]
  by_cases h : a = b
  · subst h
    rw [decide_eq_true rfl, ltK_irrefl]
    exact ⟨0, rfl, rfl⟩
  · rw [decide_eq_false h]
    simp only [cond_false, jn, ibeq]
    by_cases h1 : a.table < b.table
    · rw [decide_eq_true h1]
      exact ⟨-1, rfl, (ltK_iff.2 (.inl h1)).symm ▸ rfl⟩
    · rw [decide_eq_false h1]
      by_cases h2 : a.table = b.table
      · rw [decide_eq_true h2]
        by_cases h3 : a.id < b.id
        · rw [decide_eq_true h3]
          exact ⟨-1, rfl, (ltK_iff.2 (.inr ⟨h2, h3⟩)).symm ▸ rfl⟩
        · rw [decide_eq_false h3]
          refine ⟨1, rfl, ?_⟩
          cases hh : ltK a b with
          | false => rfl
          | true => rw [ltK_iff] at hh; omega
      · rw [decide_eq_false h2]
        refine ⟨1, rfl, ?_⟩
        cases hh : ltK a b with
        | false => rfl
        | true => rw [ltK_iff] at hh; omega
def insP (r : Row) : List Row → List Row
  | [] => [r]
  | x :: t => if ltK r.key x.key then r :: x :: t else x :: insP r t
theorem insP_cut (r : Row) : ∀ (pre post : List Row), Cut r.key pre post → insP r (pre ++ post) = pre ++ r :: post
  | [], [], _ => rfl
  | [], z :: t, h => by
    have := h.hi z (by simp)
    simp [insP, this]
  | y :: pre, post, h => by
    have hy := h.lo y (by simp)
    have : ltK r.key y.key = false := by
      cases hh : ltK r.key y.key with
      | false => rfl
      | true => have := ltK_trans hy hh; rw [ltK_irrefl] at this; cases this
    simp only [List.cons_append, insP, this]
    rw [insP_cut r pre post ⟨fun z hz => h.lo z (by simp [hz]), h.hi⟩]
    rfl
def stepW (r : Row) (i : Nat) (x : Row) (s : Bool × List Row) : Option (List Row) ⊕ (Bool × List Row) := .inr (if !s.1 && ltK r.key x.key then (true, s.2 ++ [r] ++ [x]) else (s.1, s.2 ++ [x]))
theorem with_run (r : Row) : ∀ (t : List Row) (i : Nat) (acc : List Row), runL (stepW r) (fun s => some (if s.1 then s.2 else s.2 ++ [r])) t i (true, acc) = some (acc ++ t) ∧ runL (stepW r) (fun s => some (if s.1 then s.2 else s.2 ++ [r])) t i (false, acc) = some (acc ++ insP r t)
  | [], i, acc => by simp [runL, insP]
  | x :: t, i, acc => by
    obtain ⟨h1, h2⟩ := with_run r t (i + 1) (acc ++ [x])
    obtain ⟨h3, h4⟩ := with_run r t (i + 1) (acc ++ [r] ++ [x])
    constructor
    · simp only [runL, stepW, Bool.not_true, Bool.false_and, Bool.false_eq_true, if_false]
      rw [h1]; simp
    · by_cases h : ltK r.key x.key = true
      · simp only [runL, stepW, Bool.not_false, Bool.true_and, h, if_true, insP]
        rw [h3]; simp
      · have h : ltK r.key x.key = false := by simpa using h
        simp only [runL, stepW, Bool.not_false, Bool.true_and, h, Bool.false_eq_true, if_false, insP]
        rw [h2]; simp
theorem with_eq (n : Nat) (hn : 1003 ≤ n) (l : List Row) (hl : l.length ≤ 900) (r : Row) : ref05_With n l r = some (insP r (others r.key l)) := by
  have hlo : (others r.key l).length ≤ 900 := Nat.le_trans (List.length_filter_le _ _) hl
  unfold ref05_With
  rw [without_eq n hn l (by omega)]
  simp only [Option.bind_some]
  generalize others r.key l = m at hlo
  show ref05_With_l1 n n (false, ((0 : Nat) : Int), r, [], m, ()) = _
  unfold ref05_With_l1
  refine (run_loopI m (fun (i : Nat) (s : Bool × List Row) => (s.1, (i : Int), r, s.2, m, ())) (stepW r) (fun s => some (if s.1 then s.2 else s.2 ++ [r])) (fun i s => s.2.length ≤ i + (if s.1 then 1 else 0)) (fun i s x s' hx hi hs => ?_) (fun q i s x hx hi hs => ?_) (fun q s hs => ?_) n 0 (false, []) (by omega) (by omega) (by simp)).trans (with_run r m 0 []).2
  · unfold stepW at hs
    injection hs with hs
    subst hs
    obtain ⟨b, acc⟩ := s
    simp only at hi ⊢
    cases b
    · by_cases h : ltK r.key x.key = true
      · simp [h] at hi ⊢; omega
      · simp [h] at hi ⊢; omega
    · simp at hi ⊢; omega
  · obtain ⟨b, acc⟩ := s
    have hacc : acc.length ≤ i + 1 := by
      simp only at hs
      cases b <;> simp at hs <;> omega
    obtain ⟨v, e1, e2⟩ := rcompare_lt n r.key x.key
    have a1 : app 40 acc [r] = some (acc ++ [r]) := app_lt (by simp; omega) (by decide)
    have a2 : app 40 acc [x] = some (acc ++ [x]) := app_lt (by simp; omega) (by decide)
    have a3 : app 40 (acc ++ [r]) [x] = some (acc ++ [r] ++ [x]) := app_lt (by simp; omega) (by decide)
    simp only [lt_dec hi, cond_true, idx_nat, hx, Option.bind_some, jn, ref05_With_j2, wrap_succ (show i < 4611686018427387904 by omega), e1, e2, a1, a2, a3, stepW]
    cases b <;> cases ltK r.key x.key <;> rfl
  · obtain ⟨b, acc⟩ := s
    have hacc : acc.length ≤ 901 := by
      simp only at hs
      cases b <;> simp at hs <;> omega
    have a1 : app 40 acc [r] = some (acc ++ [r]) := app_lt (by simp; omega) (by decide)
    simp only [ge_dec (Nat.lt_irrefl _), cond_false, jn, ref05_With_j3, a1, Option.bind_some]
    cases b <;> rfl
theorem others_cut {k : Key} {pre post : List Row} (h : Cut k pre post) : others k (pre ++ post) = pre ++ post := by
  unfold others
  rw [List.filter_eq_self]
  intro y hy
  rcases List.mem_append.1 hy with hy | hy
  · simpa using h.ne1 y hy
  · simpa using h.ne2 y hy
theorem others_in {k : Key} {pre post : List Row} {x : Row} (hx : x.key = k) (h : Cut k pre post) : others k (pre ++ x :: post) = pre ++ post := by
  rw [← others_cut h]
  unfold others
  simp [hx]
theorem put_ref (n : Nat) (hn : 1003 ≤ n) (c : Content) (hc : Fine c) (r : Row) (he : err1 c = 0) (hr : okRow r = true) : ∃ y, page_Put n c r = some y ∧ ref11_Put n c r = some y ∧ Fine y.1 := by
  obtain ⟨f1, f2, f3, f4, f5, f6⟩ := leaf_facts he
  have hlen : (((c.rows.length : Nat) : Int) == 4) = decide (c.rows.length = 4) := ieq4 (m := 4)
  have href : ∀ o, at_ c.rows r.key = o → ref11_Put n c r = cond (decide (ixI o < 0) && decide (c.rows.length = 4)) (some (cont0, 6)) (some (⟨1, insP r (others r.key c.rows), []⟩, 0)) := fun o ho => by
    unfold ref11_Put
    rw [rfind_eq n hn c.rows hc.rows, ho]
    simp only [Option.bind_some, jn, with_eq n hn c.rows (by omega), ref11_Leaf, hlen]
    cases decide (ixI o < 0) <;> cases decide (c.rows.length = 4) <;> rfl
  cases ha : at_ c.rows r.key with
  | none =>
    have h1 := href none ha
    have hneg : decide (ixI none < 0) = true := by decide
    by_cases h3 : c.rows.length ≤ 3
    · obtain ⟨pre, post, e1, e2, e3⟩ := place f6 ha
      refine ⟨_, put_new n hn c hc r he hr e1 e2 h3, ?_, ⟨by rw [e1] at h3; simp at h3 ⊢; omega, by simp, by simp⟩⟩
      rw [h1, hneg, decide_eq_false (by omega), e1, others_cut e2, insP_cut r pre post e2]
      rfl
    · refine ⟨_, put_full n hn c hc r he hr ha h3, ?_, fine0⟩
      rw [h1, hneg, decide_eq_true (by omega)]
      rfl
  | some i =>
    have h1 := href (some i) ha
    obtain ⟨pre, x, post, e1, rfl, h3, h4⟩ := idx_split ha
    have h3 : x.key = r.key := by simpa using h3
    have f6' := f6
    have f4' := f4
    rw [e1] at f6' f4'
    obtain ⟨hcut, _⟩ := srt_cut f6'
    rw [h3] at hcut
    refine ⟨_, put_in n hn c hc r he hr e1 h3, ?_, ⟨by simp at f4' ⊢; omega, by simp, by simp⟩⟩
    have hneg : decide (ixI (some pre.length) < 0) = false := decide_eq_false (by simp only [ixI]; omega)
    rw [h1, hneg, e1, others_in h3 hcut, insP_cut r pre post hcut]
    rfl
theorem leaves_j3 (n : Nat) (hn : 1003 ≤ n) (c : Content) (hc : Fine c) (r : Row) (he : err1 c = 0) : ∃ y, page_Take n c r.key = some y ∧ law11_PageLeaves_j3 n ((getP c r.key).2, y.2.2, c, r, (getP c r.key).1, y.1, y.2.1, ()) = some true := by
  obtain ⟨f1, f2, f3, f4, f5, f6⟩ := leaf_facts he
  cases ha : at_ c.rows r.key with
  | none =>
    have hg : getP c r.key = (row0, 4) := by
      unfold getP
      rw [if_pos he, findK_none fun x hx => by simpa using idx_none ha x hx]
      rfl
    refine ⟨_, take_eq n hn c hc r.key (by rw [hg]; decide), ?_⟩
    unfold law11_PageLeaves_j3
    rw [hg]
    simp only [rfind_eq n hn c.rows hc.rows, ha, Option.bind_some, jn, none_eq n hn [cont0] (by simp) (by simp), show Row.eqb row0 (Row.mk (Key.mk 0 0) 0 ByteArray.empty) = true from by simp [row0, Row.eqb]]
    rfl
  | some i =>
    obtain ⟨pre, x, post, e1, rfl, h3, h4⟩ := idx_split ha
    have h3 : x.key = r.key := by simpa using h3
    have f6' := f6
    have f4' := f4
    rw [e1] at f6' f4'
    obtain ⟨hcut, _⟩ := srt_cut f6'
    rw [h3] at hcut
    have hg : getP c r.key = (x, 0) := by
      unfold getP
      rw [if_pos he, e1, findK_app, findK_none hcut.ne1, findK_cons, if_pos h3]
      rfl
    have hi : c.rows[pre.length]? = some x := by rw [e1]; simp
    have hsame := rsame_refl n hn ⟨1, pre ++ post, []⟩ ⟨by simp at f4' ⊢; omega, by simp, by simp⟩
    refine ⟨_, take_in n hn c hc r.key he e1 h3, ?_⟩
    unfold law11_PageLeaves_j3
    rw [hg]
    have hneg : decide (((pre.length : Nat) : Int) < 0) = false := decide_eq_false (by omega)
    have hw := without_eq n hn c.rows hc.rows r.key
    rw [e1, others_in h3 hcut, ← e1] at hw
    simp only [rfind_eq n hn c.rows hc.rows, ha, Option.bind_some, hneg, cond_false, show ((0 : Int) == 0) = true from by decide, cond_true, ixI, idx_nat, hi, eqb_row, hw, ref11_Leaf, hsame]
theorem keys_of {c : Content} (h : okT tab 9 (.st 3) c) : Keys c := by
  refine ⟨fun r hr => ?_, fun k hk => ?_⟩
  · obtain ⟨a, b⟩ := (h.2.1.1 r hr).2.1
    have b : r.key.id ≤ 65535 := b
    exact ⟨a, by omega⟩
  · obtain ⟨a, b⟩ := (h.2.2.1.1 k hk).2.1
    have b : k.least.id ≤ 65535 := b
    exact ⟨a, by omega⟩
/-- A content that is no leaf: all that is asked of it fails alike. -/
theorem leaves_j2_err (n : Nat) (hn : 1003 ≤ n) (c : Content) (r : Row) (e : Int) (he : e ≠ 0) : law11_PageLeaves_j2 n (e, e, e, e, c, r, row0, cont0, cont0, row0, ()) = some true := by
  unfold law11_PageLeaves_j2
  have h1 : (e != 0) = true := by simpa using he
  have h2 : (e == e) = true := by simp
  simp only [h1, cond_true, jn, none_eq n hn [cont0, cont0] (by simp) (by simp), Option.bind_some, h2, show Row.eqb row0 (Row.mk (Key.mk 0 0) 0 ByteArray.empty) = true from by simp [row0, Row.eqb]]
theorem plainPageLeaves (c : Content) (r : Row) (h : okT tab 9 (.st 3) c) (hr : okT tab 9 (.st 1) r) : ∃ n, law11_PageLeaves n c r = some true := by
  refine ⟨2000, ?_⟩
  have hn : 1003 ≤ 2000 := by decide
  unfold law11_PageLeaves
  rw [wakes]
  simp only [Option.bind_some, Bool.not_true, cond_false]
  rw [over_eq 2000 hn [c] (by simp)]
  simp only [List.any_cons, List.any_nil, Bool.or_false, Option.bind_some, jn]
  by_cases ho : overC c = true
  · rw [ho]; rfl
  have ho : overC c = false := by simpa using ho
  have hc := fine_of h ho
  have hks := keys_of h
  rw [ho, cond_false]
  by_cases hb : (r.note.size : Int) > 100
  · rw [decide_eq_true hb]; rfl
  rw [decide_eq_false hb, cond_false]
  have hrs : ref11_Size 2000 c = some (sizeP c : Int) := size_eq 2000 c hc
  have h4 : (((sizeP c : Nat) : Int) == 4) = decide (sizeP c = 4) := ieq4 (m := 4)
  have h2 : decide ((sizeP c : Int) ≤ 2) = decide (sizeP c ≤ 2) := by simp; omega
  have hk0 : (c.kind != 0) = !decide (c.kind = 0) := by rw [bne, ibeq]
  have hrf : ref11_Full 2000 c = some (!decide (c.kind = 0) && decide (sizeP c = 4)) := by
    unfold ref11_Full
    simp only [jn, hrs, Option.bind_some, h4, hk0]
    cases decide (c.kind = 0) <;> rfl
  have hget := get_eq 2000 hn c hc r.key
  -- the part behind the sizes
  have hj1 : ∀ v7 v8 v9, v7 = (if checkP c then (sizeP c : Int) else 0) → v8 = (checkP c && fullP c) → v9 = (checkP c && (!decide (c.kind = 0) && decide (sizeP c ≤ 2))) → law11_PageLeaves_j1 2000 (checkP c, v7, v8, v9, c, r, ()) = some true := by
    intro v7 v8 v9 e7 e8 e9
    subst e7 e8 e9
    unfold law11_PageLeaves_j1
    have b1 : ∀ b : Bool, (!(b == b)) = false := by intro b; cases b <;> rfl
    have b2 : ∀ x : Int, (x != x) = false := by intro x; simp
    simp only [Size_eq 2000 hn c hc, Full_eq 2000 hn c hc, Small_eq 2000 hn c hc, Option.bind_some, jn, b1, b2, cond_false, hget]
    by_cases he : err1 c = 0
    · obtain ⟨f1, f2, f3, f4, f5, f6⟩ := leaf_facts he
      obtain ⟨y, hy1, hy2⟩ := leaves_j3 2000 hn c hc r he
      have hk1 : (c.kind != 1) = false := by rw [f1]; decide
      rw [f3, hk1]
      by_cases hok : okRow r = true
      · obtain ⟨z, hz1, hz2, hz3⟩ := put_ref 2000 hn c hc r he hok
        simp only [hz1, hy1, Option.bind_some, Bool.not_true, cond_false, law11_PageLeaves_j4, law11_PageLeaves_j2, show ((0 : Int) != 0) = false from by decide, rightRow_eq, hok, jn, hz2, b2, rsame_refl 2000 hn z.1 hz3]
        exact hy2
      · have hok : okRow r = false := by simpa using hok
        simp only [put_bad 2000 hn c hc r he hok, hy1, Option.bind_some, Bool.not_true, Bool.not_false, cond_true, cond_false, law11_PageLeaves_j4, law11_PageLeaves_j2, show ((0 : Int) != 0) = false from by decide, rightRow_eq, hok, jn, none_eq 2000 hn [cont0] (by simp) (by simp), show ((151 : Int) != 151) = false from by decide]
        exact hy2
    · have hg : getP c r.key = (row0, err1 c) := by unfold getP; rw [if_neg he]
      have htake := take_eq 2000 hn c hc r.key (by rw [hg]; exact he)
      rw [hg] at htake
      simp only [hg, put_err 2000 hn c hc r he, htake, Option.bind_some]
      by_cases hck : checkP c = true
      · have hkne : c.kind ≠ 1 := fun e => he (by unfold err1; rw [if_pos hck, if_pos e])
        have he2 : err1 c = 211 := by unfold err1; rw [if_pos hck, if_neg hkne]
        have hk1 : (c.kind != 1) = true := by simpa using hkne
        rw [hck, hk1, he2]
        exact leaves_j2_err 2000 hn c r 211 (by decide)
      · have hck : checkP c = false := by simpa using hck
        have he2 : err1 c = 160 := by unfold err1; rw [hck]; rfl
        rw [hck, he2]
        exact leaves_j2_err 2000 hn c r 160 (by decide)
  simp only [right_eq 2000 hn c hc hks, hrs, hrf, Option.bind_some, hk0, h2]
  have hkinds : checkP c = true → fullP c = (!decide (c.kind = 0) && decide (sizeP c = 4)) := fun hck => by
    unfold checkP at hck
    unfold fullP
    by_cases e0 : c.kind = 0
    · simp [e0]
    · rw [if_neg e0] at hck
      by_cases e1 : c.kind = 1
      · simp [e1]
      · rw [if_neg e1] at hck
        by_cases e2 : c.kind = 2
        · simp [e2]
        · rw [if_neg e2] at hck; cases hck
  by_cases hck : checkP c = true
  · have := hj1 _ _ _ rfl rfl rfl
    rw [hck, hkinds hck] at this
    simp only [if_true, Bool.true_and] at this
    rw [hck, cond_true]
    cases hd : decide (c.kind = 0) with
    | true => rw [hd] at this; simpa using this
    | false => rw [hd] at this; simpa using this
  · have hck : checkP c = false := by simpa using hck
    have := hj1 _ _ _ rfl rfl rfl
    rw [hck] at this
    rw [hck, cond_false]
    exact this
end Go.Proofs.Ytjgcapbmhcmcfaa
