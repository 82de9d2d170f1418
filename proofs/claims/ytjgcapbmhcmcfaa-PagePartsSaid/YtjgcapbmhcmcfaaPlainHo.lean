/- Layer 11: the plain law PageHolds. -/
import Derived.Test.YtjgcapbmhcmcfaaPlainH
namespace Go.Proofs.Ytjgcapbmhcmcfaa
open Go.Bur
set_option linter.unusedSimpArgs false
set_option linter.unusedVariables false
set_option maxRecDepth 100000

theorem put_err (n : Nat) (hn : 1003 ≤ n) (c : Content) (hc : Fine c) (r : Row) (he : err1 c ≠ 0) : page_Put n c r = some (cont0, err1 c) := by
  unfold page_Put
  rw [asked1_eq n hn c hc]
  simp only [Option.bind_some, show (err1 c != 0) = true from by simpa using he, cond_true]
  rfl
theorem put_bad (n : Nat) (hn : 1003 ≤ n) (c : Content) (hc : Fine c) (r : Row) (he : err1 c = 0) (hr : okRow r = false) : page_Put n c r = some (cont0, 151) := by
  unfold page_Put
  rw [asked1_eq n hn c hc, he]
  simp only [Option.bind_some, show ((0 : Int) != 0) = false from by decide, cond_false, checkRow_eq, hr]
  rfl
theorem put_full (n : Nat) (hn : 1003 ≤ n) (c : Content) (hc : Fine c) (r : Row) (he : err1 c = 0) (hr : okRow r = true) (hat : at_ c.rows r.key = none) (h4 : ¬ c.rows.length ≤ 3) : page_Put n c r = some (cont0, 6) := by
  obtain ⟨f1, f2, f3, f4, f5, f6⟩ := leaf_facts he
  have hfull : fullP c = true := by
    unfold fullP sizeP
    rw [f2, f1]
    simp; omega
  unfold page_Put
  rw [asked1_eq n hn c hc, he]
  simp only [Option.bind_some, show ((0 : Int) != 0) = false from by decide, cond_false, checkRow_eq, hr, if_true, cloneR_eq n c.rows hc.rows, find_eq n hn _ hc.rows, hat, jn, full_eq n c hc, hfull, cond_true]
  rfl
theorem fine0 : Fine cont0 := ⟨by simp [cont0], by simp [cont0], by simp [cont0]⟩
theorem holds_miss (n : Nat) (hn : 1003 ≤ n) (c : Content) (hc : Fine c) (r : Row) (k : Key) (a : Int) (b : Row) (h : (getP c r.key).2 ≠ 0) : law11_PageHolds_j1 n (a, c, r, k, b, ()) = some true := by
  unfold law11_PageHolds_j1
  simp only [take_eq n hn c hc r.key h, Option.bind_some, show ((getP c r.key).2 != 0) = true from by simpa using h, cond_true, Size_eq n hn cont0 fine0, jn, show checkP cont0 = true from by simp [checkP, cont0], if_true, show sizeP cont0 = 0 from rfl]
  simp [row0, Row.eqb]
theorem getP_leaf {l : List Row} (h : err1 ⟨1, l, []⟩ = 0) (k : Key) : getP ⟨1, l, []⟩ k = ofF (findK l k) := by
  unfold getP
  rw [if_pos h]
theorem eta_leaf {c : Content} (h1 : c.kind = 1) (h2 : c.kids = []) : c = ⟨1, c.rows, []⟩ := by
  obtain ⟨a, b, d⟩ := c
  simp only at h1 h2
  subst h1 h2; rfl
theorem find_other {pre post : List Row} {x : Row} {k : Key} (h : x.key ≠ k) : findK (pre ++ x :: post) k = findK (pre ++ post) k := by
  rw [findK_app, findK_app, findK_cons, if_neg h]
theorem holds_hit (n : Nat) (hn : 1003 ≤ n) (c : Content) (hc : Fine c) (r : Row) (k : Key) (he : err1 c = 0) {pre post : List Row} {x : Row} (hl : c.rows = pre ++ x :: post) (hx : x.key = r.key) : law11_PageHolds_j1 n ((getP c k).2, c, r, k, (getP c k).1, ()) = some true := by
  obtain ⟨f1, f2, f3, f4, f5, f6⟩ := leaf_facts he
  have hceq : c = ⟨1, pre ++ x :: post, []⟩ := by rw [← hl]; exact eta_leaf f1 f2
  rw [hl] at f4 f5 f6
  obtain ⟨hcut, hsrt⟩ := srt_cut f6
  obtain ⟨g1, g2, g3⟩ := leaf_ok (l := pre ++ post) (by simp at f4 ⊢; omega) (fun y hy => f5 y (by
    simp only [List.mem_append, List.mem_cons] at hy ⊢
    rcases hy with h | h
    · exact .inl h
    · exact .inr (.inr h))) hsrt
  have hcutr := hx ▸ hcut
  have h16 : getP ⟨1, pre ++ post, []⟩ r.key = (row0, 4) := by
    rw [getP_leaf g2, findK_app, findK_none hcutr.ne1, findK_none hcutr.ne2]
    rfl
  have h17 : k ≠ r.key → getP ⟨1, pre ++ post, []⟩ k = getP c k := fun hk => by
    rw [getP_leaf g2]
    unfold getP
    rw [if_pos he, hl, find_other (by rw [hx]; exact fun e => hk e.symm)]
  have h18 : page_Put n ⟨1, pre ++ post, []⟩ x = some (c, 0) := by
    rw [hceq]
    exact put_new n hn _ g3 x g2 (f5 x (by simp)) rfl hcut (by simp at f4 ⊢; omega)
  unfold law11_PageHolds_j1
  simp only [take_in n hn c hc r.key he hl hx, Option.bind_some, show ((0 : Int) != 0) = false from by decide, cond_false, get_eq n hn _ g3, h16, h18, jn, same_refl n hn c hc, key_eqb]
  by_cases hk : k = r.key
  · rw [decide_eq_true hk]; rfl
  · rw [decide_eq_false hk, h17 hk]
    simp only [show ((4 : Int) == 4) = true from by decide, cond_true, cond_false, show ((getP c k).2 == (getP c k).2) = true from by simp, eqb_row]
    rfl
theorem holds_j1 (n : Nat) (hn : 1003 ≤ n) (c : Content) (hc : Fine c) (r : Row) (k : Key) : law11_PageHolds_j1 n ((getP c k).2, c, r, k, (getP c k).1, ()) = some true := by
  by_cases he : err1 c = 0
  · cases ha : at_ c.rows r.key with
    | none =>
      refine holds_miss n hn c hc r k _ _ ?_
      unfold getP
      rw [if_pos he, findK_none fun x hx => by simpa using idx_none ha x hx]
      decide
    | some i =>
      obtain ⟨pre, x, post, h1, rfl, h3, h4⟩ := idx_split ha
      exact holds_hit n hn c hc r k he h1 (by simpa using h3)
  · refine holds_miss n hn c hc r k _ _ ?_
    unfold getP
    rw [if_neg he]
    exact he
theorem put_cases (n : Nat) (hn : 1003 ≤ n) (c : Content) (hc : Fine c) (r : Row) (k : Key) : (∃ e, e ≠ 0 ∧ page_Put n c r = some (cont0, e)) ∨
    ∃ pre post, page_Put n c r = some (⟨1, pre ++ r :: post, []⟩, 0) ∧ Fine ⟨1, pre ++ r :: post, []⟩ ∧ checkP ⟨1, pre ++ r :: post, []⟩ = true ∧ err1 ⟨1, pre ++ r :: post, []⟩ = 0 ∧ (∀ y ∈ pre, y.key ≠ r.key) ∧ (k ≠ r.key → getP ⟨1, pre ++ r :: post, []⟩ k = getP c k) := by
  by_cases he : err1 c = 0
  · by_cases hok : okRow r = true
    · obtain ⟨f1, f2, f3, f4, f5, f6⟩ := leaf_facts he
      cases ha : at_ c.rows r.key with
      | none =>
        by_cases h3 : c.rows.length ≤ 3
        · obtain ⟨pre, post, e1, e2, e3⟩ := place f6 ha
          rw [e1] at f5 f6
          obtain ⟨g1, g2, g3⟩ := leaf_ok (l := pre ++ r :: post) (by rw [e1] at h3; simp at h3 ⊢; omega) (fun y hy => by
            simp only [List.mem_append, List.mem_cons] at hy
            rcases hy with h | h | h
            · exact f5 y (by simp [h])
            · subst h; exact hok
            · exact f5 y (by simp [h])) (cut_srt f6 e2)
          refine .inr ⟨pre, post, put_new n hn c hc r he hok e1 e2 h3, g3, g1, g2, e2.ne1, fun hkk => ?_⟩
          rw [getP_leaf g2]
          unfold getP
          rw [if_pos he, e1, find_other (fun e => hkk e.symm)]
        · exact .inl ⟨6, by decide, put_full n hn c hc r he hok ha h3⟩
      | some i =>
        obtain ⟨pre, x, post, h1, rfl, h3, h4⟩ := idx_split ha
        have h3 : x.key = r.key := by simpa using h3
        rw [h1] at f4 f5 f6
        obtain ⟨hcut, hsrt⟩ := srt_cut f6
        rw [h3] at hcut
        obtain ⟨g1, g2, g3⟩ := leaf_ok (l := pre ++ r :: post) (by simp at f4 ⊢; omega) (fun y hy => by
          simp only [List.mem_append, List.mem_cons] at hy
          rcases hy with h | h | h
          · exact f5 y (by simp [h])
          · subst h; exact hok
          · exact f5 y (by simp [h])) (cut_srt hsrt hcut)
        refine .inr ⟨pre, post, put_in n hn c hc r he hok h1 h3, g3, g1, g2, hcut.ne1, fun hkk => ?_⟩
        rw [getP_leaf g2]
        unfold getP
        rw [if_pos he, h1, find_other (fun e => hkk e.symm), find_other (fun e => hkk (by rw [← e, h3]))]
    · exact .inl ⟨151, by decide, put_bad n hn c hc r he (by simpa using hok)⟩
  · exact .inl ⟨err1 c, he, put_err n hn c hc r he⟩
theorem plainPageHolds (c : Content) (r : Row) (k : Key) (h : okT tab 9 (.st 3) c) (hr : okT tab 9 (.st 1) r) (hk : okT tab 9 (.st 0) k) : ∃ n, law11_PageHolds n c r k = some true := by
  refine ⟨2000, ?_⟩
  have hn : 1003 ≤ 2000 := by decide
  unfold law11_PageHolds
  rw [wakes]
  simp only [Option.bind_some, Bool.not_true, cond_false]
  rw [over_eq 2000 hn [c] (by simp)]
  simp only [List.any_cons, List.any_nil, Bool.or_false, Option.bind_some, jn]
  by_cases ho : overC c = true
  · rw [ho]; rfl
  have ho : overC c = false := by simpa using ho
  have hc := fine_of h ho
  rw [ho, cond_false]
  by_cases hb : (r.note.size : Int) > 100
  · rw [decide_eq_true hb]; rfl
  rw [decide_eq_false hb, cond_false]
  simp only [get_eq 2000 hn c hc, Option.bind_some]
  have hj := holds_j1 2000 hn c hc r k
  rcases put_cases 2000 hn c hc r k with ⟨e, he, hp⟩ | ⟨pre, post, hp, hf, hck, he, hne, hoth⟩
  · rw [hp]
    simp only [Option.bind_some, show (e == 0) = false from by simpa using he, cond_false]
    exact hj
  · rw [hp]
    have h30 : getP ⟨1, pre ++ r :: post, []⟩ r.key = (r, 0) := by
      rw [getP_leaf he, findK_app, findK_none hne, findK_cons, if_pos rfl]; rfl
    simp only [Option.bind_some, show ((0 : Int) == 0) = true from by decide, cond_true, get_eq 2000 hn _ hf, check_eq 2000 hn _ hf, hck, if_true, h30, show ((0 : Int) != 0) = false from by decide, cond_false, eqb_row, Bool.not_true, key_eqb]
    by_cases hkk : k = r.key
    · rw [decide_eq_true hkk]
      exact hj
    · rw [decide_eq_false hkk, hoth hkk]
      simp only [Bool.not_false, cond_true, show ((getP c k).2 != (getP c k).2) = false from by simp, cond_false, eqb_row, Bool.not_true]
      exact hj
end Go.Proofs.Ytjgcapbmhcmcfaa
