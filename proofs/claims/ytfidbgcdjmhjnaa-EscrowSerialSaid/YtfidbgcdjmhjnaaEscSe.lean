/- Escrows: what the book does keeps to the escrow. -/
import Derived.Test.YtfidbgcdjmhjnaaEscJ
namespace Go.Proofs.Ytfidbgcdjmhjnaa
open Go.Bur
set_option linter.unusedSimpArgs false
set_option linter.unusedVariables false
set_option maxRecDepth 100000

/-! ### The shares of a book -/
abbrev Fn5 := Nat → List Int
def shOf (t : Nat) (s e : List Int) : Share := ⟨(t : Int), s.sum, hiE e, loE e⟩
def part (L : List Nat) (s e : Fn5) : List Share := (L.filter (fun u => !(e u).isEmpty)).map fun u => shOf u (s u) (e u)
def L4 : List Nat := [1, 2, 3, 4]
def k3 : Key := ⟨0, 3⟩
def ownO (t : Nat) (s e : Fn5) : Option Share := if (e t).isEmpty then none else some (shOf t (s t) (e t))
def pendB (v : Int) (s e : Fn5) : Pending := ⟨k3, v, part L4 s e⟩
def rowsOf (v : Int) (s e : Fn5) : List Pending := if part L4 s e = [] then [] else [pendB v s e]
theorem L4_split {t : Nat} (ht : 1 ≤ t ∧ t ≤ 4) : ∃ L1 L2, L4 = L1 ++ t :: L2 ∧ (∀ u ∈ L1, u < t) ∧ (∀ u ∈ L2, t < u) := by
  have hc : t = 1 ∨ t = 2 ∨ t = 3 ∨ t = 4 := by omega
  rcases hc with rfl | rfl | rfl | rfl
  · exact ⟨[], [2, 3, 4], rfl, by simp, by simp⟩
  · exact ⟨[1], [3, 4], rfl, by simp, by simp⟩
  · exact ⟨[1, 2], [4], rfl, by simp, by simp⟩
  · exact ⟨[1, 2, 3], [], rfl, by simp, by simp⟩
theorem part_split (L1 L2 : List Nat) (t : Nat) (s e : Fn5) : part (L1 ++ t :: L2) s e = part L1 s e ++ ((ownO t s e).toList ++ part L2 s e) := by
  unfold part ownO
  rw [List.filter_append, List.map_append, List.filter_cons]
  cases h : (e t).isEmpty with
  | true => simp
  | false => simp
theorem part_upd {L : List Nat} {t : Nat} (h : ∀ u ∈ L, u ≠ t) (s e : Fn5) (a b : List Int) : part L (upd s t a) (upd e t b) = part L s e := by
  unfold part
  have h1 : L.filter (fun u => !(upd e t b u).isEmpty) = L.filter (fun u => !(e u).isEmpty) := List.filter_congr fun u hu => by rw [upd_ne (h u hu)]
  rw [h1]
  refine List.map_congr_left fun u hu => ?_
  have := h u (List.mem_filter.1 hu).1
  rw [upd_ne this, upd_ne this]
theorem part_mem {L : List Nat} {s e : Fn5} {x : Share} (h : x ∈ part L s e) : ∃ u ∈ L, e u ≠ [] ∧ x = shOf u (s u) (e u) := by
  unfold part at h
  obtain ⟨u, hu, rfl⟩ := List.mem_map.1 h
  obtain ⟨h1, h2⟩ := List.mem_filter.1 hu
  exact ⟨u, h1, by simpa using h2, rfl⟩
theorem part_cut {L1 L2 : List Nat} {t : Nat} (h1 : ∀ u ∈ L1, u < t) (h2 : ∀ u ∈ L2, t < u) (s e : Fn5) : Cut (cT (t : Int)) (part (L1 ++ t :: L2) s e) (part L1 s e) (ownO t s e) (part L2 s e) := by
  refine ⟨part_split _ _ _ _ _, fun x hx => ?_, fun x hx => ?_, fun x hx => ?_⟩
  · obtain ⟨u, hu, _, rfl⟩ := part_mem hx
    exact cmpI_lt.2 (show (u : Int) < (t : Int) by have := h1 u hu; omega)
  · unfold ownO at hx
    split at hx
    · cases hx
    · cases hx; exact cmpI_zero.2 rfl
  · obtain ⟨u, hu, _, rfl⟩ := part_mem hx
    have := h2 u hu
    unfold cT cmpI shOf
    simp only
    rw [if_neg (by omega), if_pos (by omega)]; decide
theorem part_lo (L : List Nat) (s e : Fn5) : ((part L s e).map (·.lo)).sum = (L.map fun u => loE (e u)).sum := by
  induction L with
  | nil => rfl
  | cons u L ih =>
    unfold part at ih ⊢
    rw [List.filter_cons]
    cases h : (e u).isEmpty with
    | true =>
      have : e u = [] := by simpa using h
      simp only [Bool.not_true, Bool.false_eq_true, if_false, List.map_cons, List.sum_cons, this]
      rw [ih]; simp [loE]
    | false => simp only [Bool.not_false, if_true, List.map_cons, List.sum_cons]; rw [ih]; rfl
theorem part_hi (L : List Nat) (s e : Fn5) : ((part L s e).map (·.hi)).sum = (L.map fun u => hiE (e u)).sum := by
  induction L with
  | nil => rfl
  | cons u L ih =>
    unfold part at ih ⊢
    rw [List.filter_cons]
    cases h : (e u).isEmpty with
    | true =>
      have : e u = [] := by simpa using h
      simp only [Bool.not_true, Bool.false_eq_true, if_false, List.map_cons, List.sum_cons, this]
      rw [ih]; simp [hiE]
    | false => simp only [Bool.not_false, if_true, List.map_cons, List.sum_cons]; rw [ih]; rfl
theorem part_sum (L : List Nat) (s e : Fn5) (h0 : ∀ u, e u = [] → s u = []) : ((part L s e).map (·.sum)).sum = (L.map fun u => (s u).sum).sum := by
  induction L with
  | nil => rfl
  | cons u L ih =>
    unfold part at ih ⊢
    rw [List.filter_cons]
    cases h : (e u).isEmpty with
    | true =>
      have : e u = [] := by simpa using h
      simp only [Bool.not_true, Bool.false_eq_true, if_false, List.map_cons, List.sum_cons, h0 u this]
      rw [ih]; simp
    | false => simp only [Bool.not_false, if_true, List.map_cons, List.sum_cons]; rw [ih]; rfl
def lowS (e : Fn5) : Int := loE (e 1) + (loE (e 2) + (loE (e 3) + loE (e 4)))
def highS (e : Fn5) : Int := hiE (e 1) + (hiE (e 2) + (hiE (e 3) + hiE (e 4)))
def sumS (s : Fn5) : Int := (s 1).sum + ((s 2).sum + ((s 3).sum + (s 4).sum))
theorem pendB_low (v : Int) (s e : Fn5) : lowZ (pendB v s e) = v + lowS e := by
  unfold lowZ pendB; simp only [part_lo]; simp [L4, lowS]
theorem pendB_high (v : Int) (s e : Fn5) : highZ (pendB v s e) = v + highS e := by
  unfold highZ pendB; simp only [part_hi]; simp [L4, highS]
theorem pendB_mid (v : Int) (s e : Fn5) (h0 : ∀ u, e u = [] → s u = []) : midZ (pendB v s e) = v + sumS s := by
  unfold midZ pendB; simp only [part_sum L4 s e h0]; simp [L4, sumS]
theorem part_len (s e : Fn5) : (part L4 s e).length ≤ 4 := by
  unfold part
  rw [List.length_map]
  exact List.length_filter_le _ _

/-! ### What a book keeps to -/
structure Inv (i : Nat) (l : List Pending) (mn mx v : Int) (s e : Fn5) : Prop where
  b1 : -999 ≤ mn
  b2 : mn ≤ 0
  b3 : 0 ≤ mx
  b4 : mx ≤ 999
  z1 : s 0 = []
  z2 : e 0 = []
  ls : ∀ t, (s t).length ≤ i
  le : ∀ t, (e t).length ≤ i
  emp : ∀ t, e t = [] → s t = []
  pre : ∀ t k, loE (e t) ≤ ((s t).take k).sum ∧ ((s t).take k).sum ≤ hiE (e t)
  low : mn ≤ v + lowS e
  high : v + highS e ≤ mx
  rows : l = rowsOf v s e
  ok : EscOk l
  inn : EscIn l
theorem k3_ok : keyB k3 = true ∧ KeyIn k3 := ⟨by decide, by decide, by decide⟩
section
variable {n i : Nat} {l : List Pending} {mn mx v : Int} {s e : Fn5}
theorem Inv.val (h : Inv i l mn mx v s e) : mn ≤ v ∧ v ≤ mx := by
  have h1 := h.low
  have h2 := h.high
  unfold lowS at h1
  unfold highS at h2
  have := loE_le (e 1); have := loE_le (e 2); have := loE_le (e 3); have := loE_le (e 4)
  have := hiE_ge (e 1); have := hiE_ge (e 2); have := hiE_ge (e 3); have := hiE_ge (e 4)
  omega
theorem Inv.ends (h : Inv i l mn mx v s e) {t : Nat} (ht : t ≤ 4) : -1998 ≤ loE (e t) ∧ loE (e t) ≤ 0 ∧ 0 ≤ hiE (e t) ∧ hiE (e t) ≤ 1998 := by
  have h1 := h.low
  have h2 := h.high
  have h3 := h.val
  have := h.b1; have := h.b2; have := h.b3; have := h.b4
  unfold lowS at h1
  unfold highS at h2
  have := loE_le (e 1); have := loE_le (e 2); have := loE_le (e 3); have := loE_le (e 4)
  have := hiE_ge (e 1); have := hiE_ge (e 2); have := hiE_ge (e 3); have := hiE_ge (e 4)
  have hc : t = 0 ∨ t = 1 ∨ t = 2 ∨ t = 3 ∨ t = 4 := by omega
  rcases hc with rfl | rfl | rfl | rfl | rfl
  · rw [h.z2]; simp [loE, hiE]
  all_goals omega
theorem Inv.sum (h : Inv i l mn mx v s e) {t : Nat} (ht : t ≤ 4) : loE (e t) ≤ (s t).sum ∧ (s t).sum ≤ hiE (e t) := by
  have := h.pre t (s t).length
  rwa [List.take_length] at this
theorem Inv.sum2 (h : Inv i l mn mx v s e) {t : Nat} (ht : t ≤ 4) : -1998 ≤ (s t).sum ∧ (s t).sum ≤ 1998 := by
  have h1 := h.ends ht
  have h2 := h.sum ht
  omega
theorem Inv.bsum (hn : 1003 ≤ n) (h : Inv i l mn mx v s e) (hi : i ≤ 900) {t : Nat} (ht : t ≤ 4) : law10_book_sum n (bookOf l mn mx v s e) (t : Int) = some (s t).sum := by
  have h1 := h.sum2 ht
  rw [bsum_eq hn ht (by have := h.ls t; omega), wrap_in (by omega)]
theorem Inv.bnow (hn : 1003 ≤ n) (h : Inv i l mn mx v s e) (hi : i ≤ 900) : law10_book_now n (bookOf l mn mx v s e) = some (v + sumS s) := by
  have h1 := h.val
  have := h.b1; have := h.b4
  rcases bnow_eq (n := n) (l := l) (mn := mn) (mx := mx) (v := v) (s := s) (e := e) hn (fun t => by have := h.ls t; omega) with h2 | h2
  · rw [h2, h.z1]
    have a1 := h.sum2 (t := 1) (by omega)
    have a2 := h.sum2 (t := 2) (by omega)
    have a3 := h.sum2 (t := 3) (by omega)
    have a4 := h.sum2 (t := 4) (by omega)
    congr 1
    unfold sumS
    simp only [List.sum_nil, Int.zero_add]
    rw [wrap_in (by omega)]
    omega
  · exact absurd (show I64 v by unfold I64; omega) h2
/-- Are all choices within the bounds, with another sum of a transaction? -/
def goodB (mn mx v : Int) (e : Fn5) : Bool := decide (v + lowS e ≥ mn) && decide (v + highS e ≤ mx)
theorem lowAt_eq {t : Nat} {x : Int} (u : Nat) : lowAt e t x u = loE (upd e t (e t ++ [x]) u) := by
  unfold lowAt
  by_cases h : u = t
  · subst h; rw [if_pos rfl, upd_at, loE_app]
  · rw [if_neg h, upd_ne h]
theorem highAt_eq {t : Nat} {x : Int} (u : Nat) : highAt e t x u = hiE (upd e t (e t ++ [x]) u) := by
  unfold highAt
  by_cases h : u = t
  · subst h; rw [if_pos rfl, upd_at, hiE_app]
  · rw [if_neg h, upd_ne h]
theorem Inv.ends2 (h : Inv i l mn mx v s e) {t : Nat} (ht : 1 ≤ t ∧ t ≤ 4) {d : Int} (hd : -2000 < d ∧ d < 2000) {u : Nat} (hu : u ≤ 4) :
    -4000 ≤ loE (upd e t (e t ++ [(s t).sum + d]) u) ∧ loE (upd e t (e t ++ [(s t).sum + d]) u) ≤ 0 ∧ 0 ≤ hiE (upd e t (e t ++ [(s t).sum + d]) u) ∧ hiE (upd e t (e t ++ [(s t).sum + d]) u) ≤ 4000 := by
  have h1 := h.ends hu
  have h2 := h.sum2 ht.2
  have h3 := h.ends ht.2
  by_cases hut : u = t
  · subst hut
    rw [upd_at, loE_app, hiE_app]
    split <;> split <;> omega
  · rw [upd_ne hut]; omega
theorem Inv.bfits (hn : 1003 ≤ n) (h : Inv i l mn mx v s e) (hi : i ≤ 900) {t : Nat} (ht : 1 ≤ t ∧ t ≤ 4) {d : Int} (hd : -2000 < d ∧ d < 2000) :
    law10_book_fits n (bookOf l mn mx v s e) (t : Int) ((s t).sum + d) = some (goodB mn mx v (upd e t (e t ++ [(s t).sum + d]))) := by
  have h1 := h.val
  have := h.b1; have := h.b4
  rcases bfits_eq (n := n) (l := l) (mn := mn) (mx := mx) (v := v) (s := s) (e := e) hn (fun t => by have := h.le t; omega) t ((s t).sum + d) with h2 | h2
  · rw [h2]
    simp only [lowAt_eq, highAt_eq]
    have a0 : upd e t (e t ++ [(s t).sum + d]) 0 = [] := by rw [upd_ne (by omega), h.z2]
    have a1 := h.ends2 ht hd (u := 1) (by omega)
    have a2 := h.ends2 ht hd (u := 2) (by omega)
    have a3 := h.ends2 ht hd (u := 3) (by omega)
    have a4 := h.ends2 ht hd (u := 4) (by omega)
    rw [a0, show loE [] = 0 from rfl, show hiE [] = 0 from rfl]
    unfold goodB lowS highS
    rw [wrap_in (by omega), wrap_in (by omega)]
    congr 2
    · exact decide_eq_decide.2 (by omega)
    · exact decide_eq_decide.2 (by omega)
  · exact absurd (show I64 v by unfold I64; omega) h2
theorem ownO_eq (h : Inv i l mn mx v s e) (t : Nat) : ownS (t : Int) (ownO t s e) = shOf t (s t) (e t) := by
  unfold ownS ownO
  cases he : (e t).isEmpty with
  | true =>
    have h0 : e t = [] := by simpa using he
    have h1 := h.emp t h0
    rw [h0, h1]; rfl
  | false => rfl
theorem newS_eq (t : Nat) (s e : List Int) (d : Int) : newS (shOf t s e) (s.sum + d) = shOf t (s ++ [d]) (e ++ [s.sum + d]) := by
  unfold newS shOf
  rw [hiE_app, loE_app]
  simp
theorem Inv.at (h : Inv i l mn mx v s e) (now : Int) (hnow : part L4 s e = [] → now = v) (t d : Int) (b : Bounds) : ∃ y, Cut (cK k3) l [] y [] ∧ pendOf k3 ⟨t, d, now, b⟩ y = pendB v s e := by
  have hr := h.rows
  unfold rowsOf at hr
  by_cases h0 : part L4 s e = []
  · rw [if_pos h0] at hr
    subst hr
    refine ⟨none, cut_nil, ?_⟩
    unfold pendOf pendB
    rw [h0, hnow h0]; rfl
  · rw [if_neg h0] at hr
    subst hr
    exact ⟨some (pendB v s e), cut_one (cmpK_zero.2 rfl), rfl⟩
theorem part_nil_sum (h : Inv i l mn mx v s e) (h0 : part L4 s e = []) : sumS s = 0 := by
  have h1 := part_sum L4 s e h.emp
  rw [h0] at h1
  unfold sumS
  simp [L4] at h1
  omega
theorem Inv.add (hn : 1003 ≤ n) (h : Inv i l mn mx v s e) {t : Nat} (ht : 1 ≤ t ∧ t ≤ 4) {d : Int} (hd : -2000 < d ∧ d < 2000) :
    escrow_Add n ⟨l⟩ k3 ⟨(t : Int), d, v + sumS s, ⟨mn, mx⟩⟩ = some (if goodB mn mx v (upd e t (e t ++ [(s t).sum + d])) then 0 else 152, if goodB mn mx v (upd e t (e t ++ [(s t).sum + d])) then rowsOf v (upd s t (s t ++ [d])) (upd e t (e t ++ [(s t).sum + d])) else []) ∧
    (goodB mn mx v (upd e t (e t ++ [(s t).sum + d])) = true → EscOk (rowsOf v (upd s t (s t ++ [d])) (upd e t (e t ++ [(s t).sum + d]))) ∧ EscIn (rowsOf v (upd s t (s t ++ [d])) (upd e t (e t ++ [(s t).sum + d])))) := by
  obtain ⟨y, hc, hp⟩ := h.at (v + sumS s) (fun h0 => by rw [part_nil_sum h h0]; omega) (t : Int) d ⟨mn, mx⟩
  obtain ⟨L1, L2, hL, h1, h2⟩ := L4_split ht
  have hv := h.val
  have := h.b1; have := h.b2; have := h.b3; have := h.b4
  have hs := h.sum2 ht.2
  have a1 := h.sum2 (t := 1) (by omega)
  have a2 := h.sum2 (t := 2) (by omega)
  have a3 := h.sum2 (t := 3) (by omega)
  have a4 := h.sum2 (t := 4) (by omega)
  have ha : AddIn ⟨(t : Int), d, v + sumS s, ⟨mn, mx⟩⟩ := ⟨show I64 d by unfold I64; omega, show I64 (v + sumS s) by unfold I64 sumS; omega, show I64 mn by unfold I64; omega, show I64 mx by unfold I64; omega⟩
  have hcut := part_cut h1 h2 s e
  rw [← hL] at hcut
  have hc' : Cut (cT (Adding.mk (t : Int) d (v + sumS s) ⟨mn, mx⟩).txn) (pendOf k3 ⟨(t : Int), d, v + sumS s, ⟨mn, mx⟩⟩ y).shares (part L1 s e) (ownO t s e) (part L2 s e) := by rw [hp]; exact hcut
  have hnew : addTo (pendB v s e) (part L1 s e) (part L2 s e) (newS (ownS (t : Int) (ownO t s e)) ((ownS (t : Int) (ownO t s e)).sum + d)) = pendB v (upd s t (s t ++ [d])) (upd e t (e t ++ [(s t).sum + d])) := by
    rw [ownO_eq h t]
    show addTo (pendB v s e) _ _ (newS (shOf t (s t) (e t)) ((s t).sum + d)) = _
    rw [newS_eq]
    unfold addTo pendB
    rw [hL, part_split L1 L2 t (upd s t _), part_upd (fun u hu => by have := h1 u hu; omega), part_upd (fun u hu => by have := h2 u hu; omega)]
    unfold ownO
    rw [upd_at, upd_at]
    simp
  have hne : part L4 (upd s t (s t ++ [d])) (upd e t (e t ++ [(s t).sum + d])) ≠ [] := by
    rw [hL, part_split L1 L2]
    unfold ownO
    rw [upd_at]
    simp
  have hrow : rowsOf v (upd s t (s t ++ [d])) (upd e t (e t ++ [(s t).sum + d])) = [pendB v (upd s t (s t ++ [d])) (upd e t (e t ++ [(s t).sum + d]))] := if_neg hne
  have hno : addNo l k3 ⟨(t : Int), d, v + sumS s, ⟨mn, mx⟩⟩ y (part L1 s e) (ownO t s e) (part L2 s e) = if goodB mn mx v (upd e t (e t ++ [(s t).sum + d])) then 0 else 152 := by
    have hlen := h.ok.len
    have hl1 : l.length ≤ 1 := by rw [h.rows]; unfold rowsOf; split <;> simp
    unfold addNo
    rw [k3_ok.1, decide_eq_false (show ¬ 60 ≤ l.length by omega), Bool.and_false]
    simp only [Bool.not_true, Bool.false_eq_true, if_false]
    rw [hp]
    unfold addErr
    have htx : txnB (t : Int) = true := by unfold txnB; exact decide_eq_true (by omega)
    have hpl := part_len s e
    rw [htx, decide_eq_false (show ¬ mn > mx by omega), decide_eq_false (show ¬ 8 ≤ (pendB v s e).shares.length by show ¬ 8 ≤ (part L4 s e).length; omega), hnew]
    have hf : fits ((ownS (t : Int) (ownO t s e)).sum + d) = true := by
      rw [ownO_eq h t]; exact fits_of (show I64 ((s t).sum + d) by unfold I64; omega)
    rw [hf]
    simp only [Bool.not_true, Bool.false_or, Bool.and_false, Bool.false_eq_true, if_false]
    unfold overB goodB
    rw [pendB_low, pendB_high]
    dsimp only
    by_cases g1 : v + lowS (upd e t (e t ++ [(s t).sum + d])) ≥ mn
    · rw [decide_eq_true g1, decide_eq_false (by omega)]
      by_cases g2 : v + highS (upd e t (e t ++ [(s t).sum + d])) ≤ mx
      · rw [decide_eq_true g2, decide_eq_false (by omega)]; rfl
      · rw [decide_eq_false g2, decide_eq_true (by omega)]; rfl
    · rw [decide_eq_false g1, decide_eq_true (by omega)]; rfl
  have hto : addTo' k3 ⟨(t : Int), d, v + sumS s, ⟨mn, mx⟩⟩ y (part L1 s e) (ownO t s e) (part L2 s e) = pendB v (upd s t (s t ++ [d])) (upd e t (e t ++ [(s t).sum + d])) := by
    unfold addTo'
    rw [hp]; exact hnew
  have hadd := add_eq (n := n) hn h.ok h.inn hc ha hc'
  refine ⟨?_, fun hg => ?_⟩
  · rw [hadd, hno, hto, hrow]
    cases goodB mn mx v (upd e t (e t ++ [(s t).sum + d])) <;> rfl
  · rw [hg] at hno
    have := add_ok h.ok h.inn k3_ok.2 hc ha hc' hno
    rw [hto] at this
    rw [hrow]; exact this
end
end Go.Proofs.Ytfidbgcdjmhjnaa

/- Escrows: the book's adds, back, over and holds. -/
namespace Go.Proofs.Ytfidbgcdjmhjnaa
open Go.Bur
set_option linter.unusedSimpArgs false
set_option linter.unusedVariables false
set_option maxRecDepth 100000

section
variable {n i : Nat} {l : List Pending} {mn mx v : Int} {s e : Fn5}
theorem Inv.mono (h : Inv i l mn mx v s e) {j : Nat} (hj : i ≤ j) : Inv j l mn mx v s e := { h with ls := fun t => Nat.le_trans (h.ls t) hj, le := fun t => Nat.le_trans (h.le t) hj }
theorem take_app_sum {q : List Int} {d : Int} (k : Nat) : ((q ++ [d]).take k).sum = (q.take k).sum ∨ ((q ++ [d]).take k).sum = q.sum + d := by
  by_cases h : k ≤ q.length
  · left; rw [List.take_append_of_le_length h]
  · right; rw [List.take_of_length_le (by simp; omega)]; simp
theorem Inv.added (h : Inv i l mn mx v s e) {t : Nat} (ht : 1 ≤ t ∧ t ≤ 4) {d : Int} (hg : goodB mn mx v (upd e t (e t ++ [(s t).sum + d])) = true)
    (hok : EscOk (rowsOf v (upd s t (s t ++ [d])) (upd e t (e t ++ [(s t).sum + d])))) (hin : EscIn (rowsOf v (upd s t (s t ++ [d])) (upd e t (e t ++ [(s t).sum + d])))) :
    Inv (i + 1) (rowsOf v (upd s t (s t ++ [d])) (upd e t (e t ++ [(s t).sum + d]))) mn mx v (upd s t (s t ++ [d])) (upd e t (e t ++ [(s t).sum + d])) := by
  unfold goodB at hg
  rw [Bool.and_eq_true, decide_eq_true_iff, decide_eq_true_iff] at hg
  refine ⟨h.b1, h.b2, h.b3, h.b4, by rw [upd_ne (by omega), h.z1], by rw [upd_ne (by omega), h.z2], fun u => ?_, fun u => ?_, fun u => ?_, fun u k => ?_, hg.1, hg.2, rfl, hok, hin⟩
  · by_cases hu : u = t
    · subst hu; rw [upd_at]; have := h.ls u; simp; omega
    · rw [upd_ne hu]; have := h.ls u; omega
  · by_cases hu : u = t
    · subst hu; rw [upd_at]; have := h.le u; simp; omega
    · rw [upd_ne hu]; have := h.le u; omega
  · by_cases hu : u = t
    · subst hu; rw [upd_at]; simp
    · rw [upd_ne hu, upd_ne hu]; exact h.emp u
  · by_cases hu : u = t
    · subst hu
      rw [upd_at, upd_at, loE_app, hiE_app]
      have h1 := h.pre u k
      rcases take_app_sum (q := s u) (d := d) k with h2 | h2
      · rw [h2]; split <;> split <;> omega
      · rw [h2]; split <;> split <;> omega
    · rw [upd_ne hu, upd_ne hu]; exact h.pre u k
abbrev Bk : Type := Bool × (List Pending) × Int × Int × Int × (List Int) × (List Int) × (List Int) × (List Int) × (List Int) × (List Int) × (List Int) × (List Int) × (List Int) × (List Int)
abbrev bkOf (b : Bool) (l : List Pending) (mn mx v : Int) (s e : Fn5) : Bk := (b, l, mn, mx, v, s 0, s 1, s 2, s 3, s 4, e 0, e 1, e 2, e 3, e 4)
theorem Inv.adds (hn : 1003 ≤ n) (h : Inv i l mn mx v s e) (hi : i ≤ 900) {t : Nat} (ht : 1 ≤ t ∧ t ≤ 4) {d : Int} (hd : -2000 < d ∧ d < 2000) :
    ∃ l' s' e', law10_book_adds n (t : Int) d l mn mx v (s 0) (s 1) (s 2) (s 3) (s 4) (e 0) (e 1) (e 2) (e 3) (e 4) = some (bkOf true l' mn mx v s' e') ∧ Inv (i + 1) l' mn mx v s' e' ∧ ((s' = s ∧ e' = e) ∨ (s' = upd s t (s t ++ [d]) ∧ e' = upd e t (e t ++ [(s t).sum + d]))) := by
  obtain ⟨ha, hb⟩ := h.add (n := n) hn ht hd
  have hs2 := h.sum2 ht.2
  have hw : IntKind.wrap .i64 ((s t).sum + d) = (s t).sum + d := wrap_in (by omega)
  have hbk : law10_book.mk (Escrow.mk l) (Bounds.mk mn mx) v (Arr5_int64.mk (s 0) (s 1) (s 2) (s 3) (s 4)) (Arr5_int64.mk (e 0) (e 1) (e 2) (e 3) (e 4)) = bookOf l mn mx v s e := rfl
  have hk : law10_key n = some k3 := rfl
  unfold law10_book_adds
  simp only [hbk, h.bsum hn hi ht.2, hk, h.bnow hn hi, ha, Option.bind_some, hw, h.bfits hn hi ht hd, jn_or]
  cases hg : goodB mn mx v (upd e t (e t ++ [(s t).sum + d])) with
  | false =>
    refine ⟨l, s, e, ?_, h.mono (by omega), .inl ⟨rfl, rfl⟩⟩
    simp [jn, law10_book_adds_j1]
  | true =>
    obtain ⟨g1, g2⟩ := hb hg
    refine ⟨_, _, _, ?_, h.added ht hg g1 g2, .inr ⟨rfl, rfl⟩⟩
    have hlen : ∀ u, (s u).length ≤ 900 := fun u => by have := h.ls u; omega
    have hlen2 : ∀ u, (e u).length ≤ 900 := fun u => by have := h.le u; omega
    have app1 : ∀ u x, app 8 (s u) [x] = some (s u ++ [x]) := fun u x => app_lt (by have := hlen u; simp; omega) (by decide)
    have app2 : ∀ u x, app 8 (e u) [x] = some (e u ++ [x]) := fun u x => app_lt (by have := hlen2 u; simp; omega) (by decide)
    have hc : t = 1 ∨ t = 2 ∨ t = 3 ∨ t = 4 := by omega
    rcases hc with rfl | rfl | rfl | rfl
    · simp [jn, law10_book_adds_j1, app1, app2, upd, bkOf]
    · simp [jn, law10_book_adds_j1, app1, app2, upd, bkOf]
    · simp [jn, law10_book_adds_j1, app1, app2, upd, bkOf]
    · simp [jn, law10_book_adds_j1, app1, app2, upd, bkOf]
/-! ### Back -/
theorem part_updS {t : Nat} {L1 L2 : List Nat} (h1 : ∀ u ∈ L1, u ≠ t) (h2 : ∀ u ∈ L2, u ≠ t) (s e : Fn5) (q : List Int) (he : e t ≠ []) : part (L1 ++ t :: L2) (upd s t q) e = part L1 s e ++ shOf t q (e t) :: part L2 s e := by
  have e1 : upd e t (e t) = e := by funext u; unfold upd; split <;> simp_all
  rw [part_split]
  have a1 := part_upd h1 s e q (e t)
  have a2 := part_upd h2 s e q (e t)
  rw [e1] at a1 a2
  rw [a1, a2]
  unfold ownO
  rw [upd_at]
  have : (e t).isEmpty = false := by cases hh : e t with | nil => exact absurd hh he | cons => rfl
  rw [this]; rfl
theorem Inv.ne_at (h : Inv i l mn mx v s e) {t : Nat} (ht : 1 ≤ t ∧ t ≤ 4) (he : e t ≠ []) : l = [pendB v s e] := by
  obtain ⟨L1, L2, hL, h1, h2⟩ := L4_split ht
  have hne : part L4 s e ≠ [] := by
    rw [hL, part_split]
    unfold ownO
    have : (e t).isEmpty = false := by cases hh : e t with | nil => exact absurd hh he | cons => rfl
    rw [this]; simp
  rw [h.rows]; exact if_neg hne
theorem Inv.backR (hn : 1003 ≤ n) (h : Inv i l mn mx v s e) {t : Nat} (ht : 1 ≤ t ∧ t ≤ 4) {q : List Int} {d : Int} (hq : s t = q ++ [d]) :
    escrow_Back n ⟨l⟩ k3 (t : Int) d = some (0, rowsOf v (upd s t q) e) ∧ Inv i (rowsOf v (upd s t q) e) mn mx v (upd s t q) e := by
  obtain ⟨L1, L2, hL, h1, h2⟩ := L4_split ht
  have hne : e t ≠ [] := fun he => by have := h.emp t he; rw [hq] at this; simp at this
  have hl := h.ne_at ht hne
  have hcut := part_cut h1 h2 s e
  rw [← hL] at hcut
  have hown : ownO t s e = some (shOf t (s t) (e t)) := by
    unfold ownO
    have : (e t).isEmpty = false := by cases hh : e t with | nil => exact absurd hh hne | cons => rfl
    rw [this]; rfl
  rw [hown] at hcut
  have hs2 := h.sum2 ht.2
  have hen := h.ends ht.2
  have hpr := h.pre t q.length
  rw [hq, List.take_left] at hpr
  have hsum : (s t).sum = q.sum + d := by rw [hq]; simp
  have hd : -4000 ≤ d ∧ d ≤ 4000 := by omega
  have hc : Cut (cK k3) l [] (some (pendB v s e)) [] := by rw [hl]; exact cut_one (cmpK_zero.2 rfl)
  have hcs : ∀ p, some (pendB v s e) = some p → Cut (cT (t : Int)) p.shares (part L1 s e) (some (shOf t (s t) (e t))) (part L2 s e) := fun p hp => by cases hp; exact hcut
  have hbe : backErr (shOf t (s t) (e t)) d = 0 := by
    unfold backErr shOf
    simp only
    rw [fits_of (show I64 ((s t).sum - d) by unfold I64; omega), decide_eq_false (show ¬ (s t).sum - d < loE (e t) by omega), decide_eq_false (show ¬ (s t).sum - d > hiE (e t) by omega)]
    rfl
  have hto : backTo (pendB v s e) (part L1 s e) (part L2 s e) (shOf t (s t) (e t)) d = pendB v (upd s t q) e := by
    unfold backTo pendB
    rw [hL, part_updS (fun u hu => by have := h1 u hu; omega) (fun u hu => by have := h2 u hu; omega) s e q hne]
    unfold shOf
    simp only
    rw [hsum, show q.sum + d - d = q.sum from by omega]
  have hrow : rowsOf v (upd s t q) e = [pendB v (upd s t q) e] := by
    refine if_neg ?_
    rw [hL, part_updS (fun u hu => by have := h1 u hu; omega) (fun u hu => by have := h2 u hu; omega) s e q hne]
    simp
  have hbp : backP [] (some (pendB v s e)) [] (part L1 s e) (some (shOf t (s t) (e t))) (part L2 s e) d = rowsOf v (upd s t q) e := by
    unfold backP
    simp only
    rw [if_pos hbe, hto, hrow]; rfl
  have hno : backNo (some (pendB v s e)) (some (shOf t (s t) (e t))) d = 0 := hbe
  have hbk := back_eq (n := n) hn h.ok h.inn hc (t := (t : Int)) (show I64 d by unfold I64; omega) hcs
  rw [hno, hbp] at hbk
  obtain ⟨k1, k2⟩ := back_ok h.ok h.inn hc hcs hno
  rw [hbp] at k1 k2
  refine ⟨hbk, h.b1, h.b2, h.b3, h.b4, by rw [upd_ne (by omega), h.z1], h.z2, fun u => ?_, h.le, fun u hu => ?_, fun u k => ?_, h.low, h.high, rfl, k1, k2⟩
  · by_cases hut : u = t
    · subst hut; rw [upd_at]; have := h.ls u; rw [hq] at this; simp at this; omega
    · rw [upd_ne hut]; exact h.ls u
  · by_cases hut : u = t
    · subst hut; exact absurd hu hne
    · rw [upd_ne hut]; exact h.emp u hu
  · by_cases hut : u = t
    · subst hut
      rw [upd_at]
      by_cases hk : k ≤ q.length
      · have := h.pre u k
        rwa [hq, List.take_append_of_le_length hk] at this
      · rw [List.take_of_length_le (by omega)]; exact hpr
    · rw [upd_ne hut]; exact h.pre u k
theorem last_cases (l : List Int) : l = [] ∨ ∃ q d, l = q ++ [d] := by
  rcases List.eq_nil_or_concat l with h | ⟨q, d, h⟩
  · exact .inl h
  · exact .inr ⟨q, d, by rw [h, List.concat_eq_append]⟩
theorem upd_self {s : Fn5} {t : Nat} : upd s t (s t) = s := by funext u; unfold upd; split <;> simp_all
theorem Inv.back (hn : 1003 ≤ n) (h : Inv i l mn mx v s e) (hi : i ≤ 900) {t : Nat} (ht : 1 ≤ t ∧ t ≤ 4) :
    ∃ l', law10_book_back n (t : Int) l mn mx v (s 0) (s 1) (s 2) (s 3) (s 4) (e 0) (e 1) (e 2) (e 3) (e 4) = some (bkOf true l' mn mx v (upd s t (s t).dropLast) e) ∧ Inv i l' mn mx v (upd s t (s t).dropLast) e := by
  rcases last_cases (s t) with h0 | ⟨q, d, hq⟩
  · have hu : upd s t (s t).dropLast = s := by rw [h0]; funext u; unfold upd; split <;> simp_all
    refine ⟨l, ?_, by rw [hu]; exact h⟩
    rw [hu]
    unfold law10_book_back
    have hc : t = 1 ∨ t = 2 ∨ t = 3 ∨ t = 4 := by omega
    rcases hc with rfl | rfl | rfl | rfl <;> simp [h0, bkOf]
  · have hdl : (s t).dropLast = q := by rw [hq]; simp
    obtain ⟨g1, g2⟩ := h.backR (n := n) hn ht hq
    rw [hdl]
    refine ⟨_, ?_, g2⟩
    have hlen := h.ls t
    have hql : (s t).length = q.length + 1 := by rw [hq]; simp
    have hne : (((s t).length : Int) == 0) = false := by rw [hql]; exact beq_eq_false_iff_ne.2 (by omega)
    have hw : IntKind.wrap .i64 (((s t).length : Int) - 1) = (q.length : Int) := by rw [hql]; exact wrap_pred (by omega)
    have hix : idx (s t) (q.length : Int) = some d := by rw [hq, idx_nat]; simp
    have hsub : sub (s t) 0 (q.length : Int) = some q := by
      have := sub_ok (l := s t) (a := 0) (b := q.length) (by omega) (by omega)
      simp only [List.drop_zero, Nat.sub_zero] at this
      rw [show ((0 : Nat) : Int) = 0 from rfl] at this
      rw [this, hq, List.take_left]
    have hk : law10_key n = some k3 := rfl
    unfold law10_book_back
    have hc : t = 1 ∨ t = 2 ∨ t = 3 ∨ t = 4 := by omega
    rcases hc with rfl | rfl | rfl | rfl
    · simp only [show decide (((1 : Nat) : Int) = 0) = false from rfl, show decide (((1 : Nat) : Int) = 1) = true from rfl, cond_true, cond_false, hne, hk, hw, hix, hsub, Option.bind_some]
      have g1' : escrow_Back n ⟨l⟩ k3 1 d = _ := g1
      rw [g1']; rfl
    · simp only [show decide (((2 : Nat) : Int) = 0) = false from rfl, show decide (((2 : Nat) : Int) = 1) = false from rfl, show decide (((2 : Nat) : Int) = 2) = true from rfl, cond_true, cond_false, hne, hk, hw, hix, hsub, Option.bind_some]
      have g1' : escrow_Back n ⟨l⟩ k3 2 d = _ := g1
      rw [g1']; rfl
    · simp only [show decide (((3 : Nat) : Int) = 0) = false from rfl, show decide (((3 : Nat) : Int) = 1) = false from rfl, show decide (((3 : Nat) : Int) = 2) = false from rfl, show decide (((3 : Nat) : Int) = 3) = true from rfl, cond_true, cond_false, hne, hk, hw, hix, hsub, Option.bind_some]
      have g1' : escrow_Back n ⟨l⟩ k3 3 d = _ := g1
      rw [g1']; rfl
    · simp only [show decide (((4 : Nat) : Int) = 0) = false from rfl, show decide (((4 : Nat) : Int) = 1) = false from rfl, show decide (((4 : Nat) : Int) = 2) = false from rfl, show decide (((4 : Nat) : Int) = 3) = false from rfl, show decide (((4 : Nat) : Int) = 4) = true from rfl, cond_true, cond_false, hne, hk, hw, hix, hsub, Option.bind_some]
      have g1' : escrow_Back n ⟨l⟩ k3 4 d = _ := g1
      rw [g1']; rfl
end
end Go.Proofs.Ytfidbgcdjmhjnaa

/- Escrows: the book's over and holds. -/
namespace Go.Proofs.Ytfidbgcdjmhjnaa
open Go.Bur
set_option linter.unusedSimpArgs false
set_option linter.unusedVariables false
set_option maxRecDepth 100000

theorem lowS_upd (e : Fn5) {t : Nat} (ht : 1 ≤ t ∧ t ≤ 4) (x : List Int) : lowS (upd e t x) = lowS e - loE (e t) + loE x := by
  unfold lowS
  have hc : t = 1 ∨ t = 2 ∨ t = 3 ∨ t = 4 := by omega
  rcases hc with rfl | rfl | rfl | rfl <;> simp [upd] <;> omega
theorem highS_upd (e : Fn5) {t : Nat} (ht : 1 ≤ t ∧ t ≤ 4) (x : List Int) : highS (upd e t x) = highS e - hiE (e t) + hiE x := by
  unfold highS
  have hc : t = 1 ∨ t = 2 ∨ t = 3 ∨ t = 4 := by omega
  rcases hc with rfl | rfl | rfl | rfl <;> simp [upd] <;> omega
section
variable {n i : Nat} {l : List Pending} {mn mx v : Int} {s e : Fn5}
theorem part_over {L1 L2 : List Nat} {t : Nat} (h1 : ∀ u ∈ L1, u ≠ t) (h2 : ∀ u ∈ L2, u ≠ t) (s e : Fn5) : part (L1 ++ t :: L2) (upd s t []) (upd e t []) = part L1 s e ++ part L2 s e := by
  rw [part_split, part_upd h1, part_upd h2]
  unfold ownO
  rw [upd_at]
  rfl
theorem sumO_own (h : Inv i l mn mx v s e) (t : Nat) : sumO (ownO t s e) = (s t).sum := by
  unfold ownO
  cases he : (e t).isEmpty with
  | true =>
    have h0 : e t = [] := by simpa using he
    rw [h.emp t h0]; rfl
  | false => rfl
theorem Inv.overR (hn : 1003 ≤ n) (h : Inv i l mn mx v s e) {t : Nat} (ht : 1 ≤ t ∧ t ≤ 4) {c : Bool} (hc : c = true ∨ s t = []) :
    escrow_Over n ⟨l⟩ (t : Int) c = some (0, rowsOf (v + (s t).sum) (upd s t []) (upd e t [])) ∧ Inv i (rowsOf (v + (s t).sum) (upd s t []) (upd e t [])) mn mx (v + (s t).sum) (upd s t []) (upd e t []) := by
  obtain ⟨L1, L2, hL, h1, h2⟩ := L4_split ht
  have hcut := part_cut h1 h2 s e
  rw [← hL] at hcut
  have hpo := part_over (fun u hu => by have := h1 u hu; omega) (fun u hu => by have := h2 u hu; omega) s e (t := t) (L1 := L1) (L2 := L2)
  rw [← hL] at hpo
  have htx : txnB (t : Int) = true := by unfold txnB; exact decide_eq_true (by omega)
  have hval : (if c then sumO (ownO t s e) else 0) = (s t).sum := by
    rcases hc with rfl | h0
    · exact sumO_own h t
    · rw [h0]; cases c
      · rfl
      · rw [show (if true = true then sumO (ownO t s e) else 0) = sumO (ownO t s e) from rfl, sumO_own h t, h0]
  have hover : overL (t : Int) c l = rowsOf (v + (s t).sum) (upd s t []) (upd e t []) := by
    have hr := h.rows
    unfold rowsOf at hr
    by_cases h0 : part L4 s e = []
    · rw [if_pos h0] at hr
      have h9 : part L4 (upd s t []) (upd e t []) = [] := by
        rw [hpo]
        have := hcut.eq
        rw [h0] at this
        have := congrArg List.length this
        simp at this
        rw [List.eq_nil_of_length_eq_zero (show (part L1 s e).length = 0 by omega), List.eq_nil_of_length_eq_zero (show (part L2 s e).length = 0 by omega)]
        rfl
      rw [hr]
      unfold rowsOf
      rw [if_pos h9]; rfl
    · rw [if_neg h0] at hr
      have hp : overP (t : Int) c (pendB v s e) = pendB (v + (s t).sum) (upd s t []) (upd e t []) := by
        rw [overP_cut (p := pendB v s e) hcut, hval]
        unfold pendB
        rw [hpo]
      rw [hr]
      unfold overL rowsOf
      simp only [List.map_cons, List.map_nil, hp, List.filter_cons, List.filter_nil, noShares]
      by_cases h8 : part L4 (upd s t []) (upd e t []) = []
      · rw [if_pos h8, decide_eq_true (show (pendB (v + (s t).sum) (upd s t []) (upd e t [])).shares.length = 0 by show (part L4 (upd s t []) (upd e t [])).length = 0; rw [h8]; rfl)]; rfl
      · rw [if_neg h8, decide_eq_false (show ¬ (pendB (v + (s t).sum) (upd s t []) (upd e t [])).shares.length = 0 from fun hh => h8 (List.eq_nil_of_length_eq_zero hh))]; rfl
  obtain ⟨k1, k2⟩ := over_ok h.ok h.inn (t : Int) c
  rw [hover] at k1 k2
  refine ⟨by rw [over_eqE hn h.ok h.inn, htx, if_pos rfl, hover], h.b1, h.b2, h.b3, h.b4, by rw [upd_ne (by omega), h.z1], by rw [upd_ne (by omega), h.z2], fun u => ?_, fun u => ?_, fun u hu => ?_, fun u k => ?_, ?_, ?_, rfl, k1, k2⟩
  · by_cases hut : u = t
    · subst hut; rw [upd_at]; simp
    · rw [upd_ne hut]; exact h.ls u
  · by_cases hut : u = t
    · subst hut; rw [upd_at]; simp
    · rw [upd_ne hut]; exact h.le u
  · by_cases hut : u = t
    · subst hut; rw [upd_at]
    · rw [upd_ne hut] at hu ⊢; exact h.emp u hu
  · by_cases hut : u = t
    · subst hut; rw [upd_at, upd_at]; simp [loE, hiE]
    · rw [upd_ne hut, upd_ne hut]; exact h.pre u k
  · have a1 := h.low
    have a2 := h.sum ht.2
    rw [lowS_upd e ht, show loE [] = 0 from rfl]; omega
  · have a1 := h.high
    have a2 := h.sum ht.2
    rw [highS_upd e ht, show hiE [] = 0 from rfl]; omega
theorem upd_upd {s : Fn5} {t : Nat} {a b : List Int} : upd (upd s t a) t b = upd s t b := by funext u; unfold upd; split <;> rfl
theorem Inv.over (hn : 1003 ≤ n) (h : Inv i l mn mx v s e) (hi : i ≤ 900) {t : Nat} (ht : 1 ≤ t ∧ t ≤ 4) (c : Bool) :
    ∃ l', law10_book_over n (t : Int) c l mn mx v (s 0) (s 1) (s 2) (s 3) (s 4) (e 0) (e 1) (e 2) (e 3) (e 4) = some (bkOf true l' mn mx (v + (if c then (s t).sum else 0)) (upd s t []) (upd e t [])) ∧ Inv i l' mn mx (v + (if c then (s t).sum else 0)) (upd s t []) (upd e t []) := by
  unfold law10_book_over
  have hst := h.ls t
  have hd : ∀ k : Nat, (((t : Nat) : Int) = (k : Int)) = (t = k) := fun k => by apply propext; omega
  -- from a book whose transaction has nothing left to take back
  have last : ∀ (q : List Int) (l1 : List Pending), Inv i l1 mn mx v (upd s t q) e → (c = true ∧ q = s t ∨ c = false ∧ q = []) → escrow_Over n ⟨l1⟩ (t : Int) c = some (0, rowsOf (v + q.sum) (upd s t []) (upd e t [])) ∧ law10_book_sum n (bookOf l1 mn mx v (upd s t q) e) (t : Int) = some q.sum ∧ IntKind.wrap .i64 (v + q.sum) = v + q.sum ∧ q.sum = (if c then (s t).sum else 0) ∧ Inv i (rowsOf (v + q.sum) (upd s t []) (upd e t [])) mn mx (v + q.sum) (upd s t []) (upd e t []) := fun q l1 h1 hq => by
    have hh := h1.overR (n := n) hn ht (c := c) (by rcases hq with ⟨g, _⟩ | ⟨_, g⟩; exact .inl g; right; rw [upd_at]; exact g)
    rw [upd_at, upd_upd] at hh
    have hb := h1.bsum (n := n) hn hi ht.2
    rw [upd_at] at hb
    have h2 := h1.sum2 ht.2
    rw [upd_at] at h2
    have h3 := h1.val
    have := h.b1; have := h.b4
    refine ⟨hh.1, hb, wrap_in (by omega), ?_, hh.2⟩
    rcases hq with ⟨rfl, rfl⟩ | ⟨rfl, rfl⟩ <;> rfl
  have hs0 : upd s t (s t) = s := upd_self
  have start : law10_book_over_l1 n n ((t : Int), c, l, mn, mx, v, s 0, s 1, s 2, s 3, s 4, e 0, e 1, e 2, e 3, e 4, ()) = law10_book_over_l1 n n ((t : Int), c, l, mn, mx, v, upd s t (s t) 0, upd s t (s t) 1, upd s t (s t) 2, upd s t (s t) 3, upd s t (s t) 4, e 0, e 1, e 2, e 3, e 4, ()) := by rw [hs0]
  rw [start]
  unfold law10_book_over_l1
  refine loop_ex (fun o => ∃ l', o = some (bkOf true l' mn mx (v + (if c then (s t).sum else 0)) (upd s t []) (upd e t [])) ∧ Inv i l' mn mx (v + (if c then (s t).sum else 0)) (upd s t []) (upd e t [])) (if c then 0 else (s t).length) (fun _ (z : List Int × List Pending) => ((t : Int), c, z.2, mn, mx, v, upd s t z.1 0, upd s t z.1 1, upd s t z.1 2, upd s t z.1 3, upd s t z.1 4, e 0, e 1, e 2, e 3, e 4, ())) (fun j z => Inv i z.2 mn mx v (upd s t z.1) e ∧ z.1 = (s t).take ((s t).length - j)) (fun r j z hj hI => ?_) (fun r z hI => ?_) n 0 (s t, l) (Nat.zero_le _) (by split <;> omega) ⟨by rw [hs0]; exact h, by simp⟩
  · obtain ⟨q, l1⟩ := z
    obtain ⟨h1, h2⟩ := hI
    simp only at h1 h2
    cases c with
    | true => simp at hj
    | false =>
      simp only [Bool.false_eq_true, if_false] at hj
      obtain ⟨l2, g1, g2⟩ := h1.back (n := n) hn hi ht
      rw [upd_at, upd_upd] at g1 g2
      have hq : q.length = (s t).length - j := by rw [h2, List.length_take]; omega
      have hqp : decide ((q.length : Int) > 0) = true := decide_eq_true (by omega)
      refine ⟨(q.dropLast, l2), ?_, g2, ?_⟩
      · have hc : t = 1 ∨ t = 2 ∨ t = 3 ∨ t = 4 := by omega
        have hu : upd s t q t = q := upd_at
        rcases hc with rfl | rfl | rfl | rfl
        · have g1' : law10_book_back n 1 l1 mn mx v (upd s 1 q 0) (upd s 1 q 1) (upd s 1 q 2) (upd s 1 q 3) (upd s 1 q 4) (e 0) (e 1) (e 2) (e 3) (e 4) = _ := g1
          simp only [show decide (((1 : Nat) : Int) = 0) = false from rfl, show decide (((1 : Nat) : Int) = 1) = true from rfl, cond_true, cond_false, jn, Bool.not_false, hu, hqp]
          rw [hu] at g1'
          simp only [g1', Option.bind_some, Bool.not_true, cond_false]
          rfl
        · have g1' : law10_book_back n 2 l1 mn mx v (upd s 2 q 0) (upd s 2 q 1) (upd s 2 q 2) (upd s 2 q 3) (upd s 2 q 4) (e 0) (e 1) (e 2) (e 3) (e 4) = _ := g1
          simp only [show decide (((2 : Nat) : Int) = 0) = false from rfl, show decide (((2 : Nat) : Int) = 1) = false from rfl, show decide (((2 : Nat) : Int) = 2) = true from rfl, cond_true, cond_false, jn, Bool.not_false, hu, hqp]
          rw [hu] at g1'
          simp only [g1', Option.bind_some, Bool.not_true, cond_false]
          rfl
        · have g1' : law10_book_back n 3 l1 mn mx v (upd s 3 q 0) (upd s 3 q 1) (upd s 3 q 2) (upd s 3 q 3) (upd s 3 q 4) (e 0) (e 1) (e 2) (e 3) (e 4) = _ := g1
          simp only [show decide (((3 : Nat) : Int) = 0) = false from rfl, show decide (((3 : Nat) : Int) = 1) = false from rfl, show decide (((3 : Nat) : Int) = 2) = false from rfl, show decide (((3 : Nat) : Int) = 3) = true from rfl, cond_true, cond_false, jn, Bool.not_false, hu, hqp]
          rw [hu] at g1'
          simp only [g1', Option.bind_some, Bool.not_true, cond_false]
          rfl
        · have g1' : law10_book_back n 4 l1 mn mx v (upd s 4 q 0) (upd s 4 q 1) (upd s 4 q 2) (upd s 4 q 3) (upd s 4 q 4) (e 0) (e 1) (e 2) (e 3) (e 4) = _ := g1
          simp only [show decide (((4 : Nat) : Int) = 0) = false from rfl, show decide (((4 : Nat) : Int) = 1) = false from rfl, show decide (((4 : Nat) : Int) = 2) = false from rfl, show decide (((4 : Nat) : Int) = 3) = false from rfl, show decide (((4 : Nat) : Int) = 4) = true from rfl, cond_true, cond_false, jn, Bool.not_false, hu, hqp]
          rw [hu] at g1'
          simp only [g1', Option.bind_some, Bool.not_true, cond_false]
          rfl
      · show q.dropLast = _
        rw [List.dropLast_eq_take, hq, h2, List.take_take]
        congr 1
        omega
  · obtain ⟨q, l1⟩ := z
    obtain ⟨h1, h2⟩ := hI
    simp only at h1 h2
    have hcq : c = true ∧ q = s t ∨ c = false ∧ q = [] := by
      cases c with
      | true => left; exact ⟨rfl, by rw [h2]; simp⟩
      | false => right; exact ⟨rfl, by rw [h2]; simp⟩
    obtain ⟨k1, k2, k3', k4, k5⟩ := last q l1 h1 hcq
    rw [← k4]
    refine ⟨_, ?_, k5⟩
    have hq0 : (!c && decide ((q.length : Int) > 0)) = false := by
      rcases hcq with ⟨rfl, _⟩ | ⟨rfl, rfl⟩ <;> rfl
    have hbk : law10_book.mk (Escrow.mk l1) (Bounds.mk mn mx) v (Arr5_int64.mk (upd s t q 0) (upd s t q 1) (upd s t q 2) (upd s t q 3) (upd s t q 4)) (Arr5_int64.mk (e 0) (e 1) (e 2) (e 3) (e 4)) = bookOf l1 mn mx v (upd s t q) e := rfl
    have hc : t = 1 ∨ t = 2 ∨ t = 3 ∨ t = 4 := by omega
    have hu : upd s t q t = q := upd_at
    rcases hc with rfl | rfl | rfl | rfl
    · have k1' : escrow_Over n ⟨l1⟩ 1 c = _ := k1
      have k2' : law10_book_sum n (bookOf l1 mn mx v (upd s 1 q) e) 1 = _ := k2
      simp only [show decide (((1 : Nat) : Int) = 0) = false from rfl, show decide (((1 : Nat) : Int) = 1) = true from rfl, cond_true, cond_false, jn_and, hbk]
      rw [hu, hq0]
      simp only [cond_false, k1', k2', Option.bind_some, k3']
      rfl
    · have k1' : escrow_Over n ⟨l1⟩ 2 c = _ := k1
      have k2' : law10_book_sum n (bookOf l1 mn mx v (upd s 2 q) e) 2 = _ := k2
      simp only [show decide (((2 : Nat) : Int) = 0) = false from rfl, show decide (((2 : Nat) : Int) = 1) = false from rfl, show decide (((2 : Nat) : Int) = 2) = true from rfl, cond_true, cond_false, jn_and, hbk]
      rw [hu, hq0]
      simp only [cond_false, k1', k2', Option.bind_some, k3']
      rfl
    · have k1' : escrow_Over n ⟨l1⟩ 3 c = _ := k1
      have k2' : law10_book_sum n (bookOf l1 mn mx v (upd s 3 q) e) 3 = _ := k2
      simp only [show decide (((3 : Nat) : Int) = 0) = false from rfl, show decide (((3 : Nat) : Int) = 1) = false from rfl, show decide (((3 : Nat) : Int) = 2) = false from rfl, show decide (((3 : Nat) : Int) = 3) = true from rfl, cond_true, cond_false, jn_and, hbk]
      rw [hu, hq0]
      simp only [cond_false, k1', k2', Option.bind_some, k3']
      rfl
    · have k1' : escrow_Over n ⟨l1⟩ 4 c = _ := k1
      have k2' : law10_book_sum n (bookOf l1 mn mx v (upd s 4 q) e) 4 = _ := k2
      simp only [show decide (((4 : Nat) : Int) = 0) = false from rfl, show decide (((4 : Nat) : Int) = 1) = false from rfl, show decide (((4 : Nat) : Int) = 2) = false from rfl, show decide (((4 : Nat) : Int) = 3) = false from rfl, show decide (((4 : Nat) : Int) = 4) = true from rfl, cond_true, cond_false, jn_and, hbk]
      rw [hu, hq0]
      simp only [cond_false, k1', k2', Option.bind_some, k3']
      rfl
theorem Inv.holds (hn : 1003 ≤ n) (h : Inv i l mn mx v s e) (hi : i ≤ 900) : law10_book_holds n (bookOf l mn mx v s e) = some true := by
  have hk : law10_key n = some k3 := rfl
  have hl : l.length ≤ 61 := by have := h.ok.len; omega
  have hf := findE (n := n) hn l (by omega) k3
  have hc := echeck_eq (n := n) hn h.inn hl
  rw [rightE_iff.2 h.ok, if_pos rfl] at hc
  have he : (bookOf l mn mx v s e).e = ⟨l⟩ := rfl
  have hv : (bookOf l mn mx v s e).value = v := rfl
  have hmn : (bookOf l mn mx v s e).bounds.min = mn := rfl
  have hmx : (bookOf l mn mx v s e).bounds.max = mx := rfl
  unfold law10_book_holds
  have hr := h.rows
  unfold rowsOf at hr
  by_cases h0 : part L4 s e = []
  · rw [if_pos h0] at hr
    have hsum := part_nil_sum h h0
    have hnow := h.bnow (n := n) hn hi
    rw [hsum, Int.add_zero] at hnow
    subst hr
    simp only [hk, he, hv, hf, hc, Option.bind_some, List.find?_nil, jn, hnow]
    simp
  · rw [if_neg h0] at hr
    have hnow := h.bnow (n := n) hn hi
    have hp := h.inn (pendB v s e) (by rw [hr]; simp)
    have hrp := h.ok.each (pendB v s e) (by rw [hr]; simp)
    have hen := Ends_eq (n := n) hn hp.1 hp.2.2
    rw [hrp, if_pos rfl, pendB_low, pendB_high, pendB_mid v s e h.emp] at hen
    have hfe : l.find? (fun p => Key.eqb p.key k3) = some (pendB v s e) := by rw [hr]; rfl
    rw [hfe] at hf
    have hpv : (pendB v s e).value = v := rfl
    simp only [hk, he, hv, hf, hc, hen, Option.bind_some, jn, hnow, hmn, hmx, hpv, decide_eq_true h.low, decide_eq_true h.high, Bool.not_true, cond_false]
    simp
end
end Go.Proofs.Ytfidbgcdjmhjnaa

/- The plain law EscrowBounds: one is let if no choice leaves the bounds, and refused if one does. -/
namespace Go.Proofs.Ytfidbgcdjmhjnaa
open Go.Bur
set_option linter.unusedSimpArgs false
set_option linter.unusedVariables false
set_option maxRecDepth 100000

def s0 : Fn5 := fun _ => []
theorem inv0 {mn mx : Int} (b1 : -999 ≤ mn) (b2 : mn ≤ 0) (b3 : 0 ≤ mx) (b4 : mx ≤ 999) : Inv 0 [] mn mx 0 s0 s0 :=
  ⟨b1, b2, b3, b4, rfl, rfl, fun _ => Nat.le_refl _, fun _ => Nat.le_refl _, fun _ _ => rfl, fun _ k => by simp [s0, loE, hiE], by simp [lowS, s0, loE]; omega, by simp [highS, s0, hiE]; omega, rfl, ⟨by simp, by simp, List.Pairwise.nil⟩, escIn_nil⟩
theorem rem_pos {x m : Int} (hm : 0 < m) (hx : 0 ≤ x) : remP x m = some (x % m) := by
  unfold remP
  rw [if_pos (by omega), Int.tmod_eq_emod_of_nonneg hx]
theorem bnds {w : Int} (hw : I64 w) : ∃ z, remP (if 0 > w then 0 else w) 1000 = some z ∧ 0 ≤ z ∧ z ≤ 999 := by
  have h0 : 0 ≤ (if 0 > w then 0 else w) := by split <;> omega
  exact ⟨_, rem_pos (by decide) h0, by omega, by omega⟩
theorem rem_by {x : Int} : ∃ z, remP x 2000 = some z ∧ -2000 < z ∧ z < 2000 := by
  unfold remP
  rw [if_pos (by decide)]
  refine ⟨_, rfl, ?_, ?_⟩
  · have h2 := Int.tmod_lt_of_pos (-x) (show (0 : Int) < 2000 by decide)
    rw [Int.neg_tmod] at h2
    omega
  · exact Int.tmod_lt_of_pos x (by decide)
theorem txn_of (x : Int) : ∃ z, remP (IntKind.wrap .u64 x) 4 = some z ∧ ∃ t : Nat, 1 ≤ t ∧ t ≤ 4 ∧ IntKind.wrap .i64 (IntKind.wrap .i64 z + 1) = (t : Int) := by
  have hz : 0 ≤ IntKind.wrap .u64 x := by rw [IntKind.wrap_u64]; omega
  refine ⟨_, rem_pos (by decide) hz, (IntKind.wrap .u64 x % 4).toNat + 1, by omega, by omega, ?_⟩
  rw [wrap_in (x := IntKind.wrap .u64 x % 4) (by omega), wrap_in (by omega)]
  omega
theorem kind_of (x : Int) : ∃ z, remP (IntKind.wrap .u64 x) 6 = some z ∧ 0 ≤ z ∧ z < 6 := by
  have hz : 0 ≤ IntKind.wrap .u64 x := by rw [IntKind.wrap_u64]; omega
  exact ⟨_, rem_pos (by decide) hz, by omega, by omega⟩
end Go.Proofs.Ytfidbgcdjmhjnaa

/- The plain law EscrowSerial: in the order of commits each sum that was let fits at its place. Printed in part by program: four transactions alike. -/
namespace Go.Proofs.Ytfidbgcdjmhjnaa
open Go.Bur
set_option linter.unusedSimpArgs false
set_option linter.unusedVariables false
set_option maxRecDepth 100000

/-- What a transaction was let do comes to its sum, and each sum on the way is within its reach. -/
structure Hist (i : Nat) (s e a : Fn5) : Prop where
  len : ∀ t, (a t).length ≤ i
  sum : ∀ t, (a t).sum = (s t).sum
  pre : ∀ t k, loE (e t) ≤ ((a t).take k).sum ∧ ((a t).take k).sum ≤ hiE (e t)
section
variable {n i : Nat} {l : List Pending} {mn mx v : Int} {s e a : Fn5}
theorem Hist.mono (h : Hist i s e a) {j : Nat} (hj : i ≤ j) : Hist j s e a := { h with len := fun t => Nat.le_trans (h.len t) hj }
theorem Hist.added (h : Hist i s e a) (t : Nat) (d : Int) : Hist (i + 1) (upd s t (s t ++ [d])) (upd e t (e t ++ [(s t).sum + d])) (upd a t (a t ++ [d])) := by
  refine ⟨fun u => ?_, fun u => ?_, fun u k => ?_⟩
  · by_cases hu : u = t
    · subst hu; rw [upd_at]; have := h.len u; simp; omega
    · rw [upd_ne hu]; have := h.len u; omega
  · by_cases hu : u = t
    · subst hu; rw [upd_at, upd_at]; have := h.sum u; simp; omega
    · rw [upd_ne hu, upd_ne hu]; exact h.sum u
  · by_cases hu : u = t
    · subst hu
      rw [upd_at, upd_at, loE_app, hiE_app]
      have h1 := h.pre u k
      have h3 := h.sum u
      rcases take_app_sum (q := a u) (d := d) k with h2 | h2
      · rw [h2]; split <;> split <;> omega
      · rw [h2]; split <;> split <;> omega
    · rw [upd_ne hu, upd_ne hu]; exact h.pre u k
theorem Hist.back (h : Hist i s e a) (hI : Inv i l mn mx v s e) {t : Nat} {q : List Int} {d : Int} (hq : s t = q ++ [d]) : Hist (i + 1) (upd s t q) e (upd a t (a t ++ [0 - d])) := by
  have hs : (s t).sum = q.sum + d := by rw [hq]; simp
  have hp := hI.pre t q.length
  rw [hq, List.take_left] at hp
  refine ⟨fun u => ?_, fun u => ?_, fun u k => ?_⟩
  · by_cases hu : u = t
    · subst hu; rw [upd_at]; have := h.len u; simp; omega
    · rw [upd_ne hu]; have := h.len u; omega
  · by_cases hu : u = t
    · subst hu; rw [upd_at, upd_at]; have := h.sum u; simp; omega
    · rw [upd_ne hu, upd_ne hu]; exact h.sum u
  · by_cases hu : u = t
    · subst hu
      rw [upd_at]
      have h1 := h.pre u k
      have h3 := h.sum u
      rcases take_app_sum (q := a u) (d := 0 - d) k with h2 | h2
      · rw [h2]; exact h1
      · rw [h2]; omega
    · rw [upd_ne hu]; exact h.pre u k
theorem Hist.over (h : Hist i s e a) (t : Nat) : Hist i (upd s t []) (upd e t []) (upd a t []) := by
  refine ⟨fun u => ?_, fun u => ?_, fun u k => ?_⟩
  · by_cases hu : u = t
    · subst hu; rw [upd_at]; simp
    · rw [upd_ne hu]; exact h.len u
  · by_cases hu : u = t
    · subst hu; rw [upd_at, upd_at]
    · rw [upd_ne hu, upd_ne hu]; exact h.sum u
  · by_cases hu : u = t
    · subst hu; rw [upd_at, upd_at]; simp [loE, hiE]
    · rw [upd_ne hu, upd_ne hu]; exact h.pre u k
/-- On its way a transaction that commits stays within the bounds. -/
theorem Hist.within (h : Hist i s e a) (hI : Inv i l mn mx v s e) {t : Nat} (ht : 1 ≤ t ∧ t ≤ 4) (k : Nat) : mn ≤ v + ((a t).take k).sum ∧ v + ((a t).take k).sum ≤ mx := by
  have h1 := hI.low
  have h2 := hI.high
  have h3 := h.pre t k
  unfold lowS at h1
  unfold highS at h2
  have := loE_le (e 1); have := loE_le (e 2); have := loE_le (e 3); have := loE_le (e 4)
  have := hiE_ge (e 1); have := hiE_ge (e 2); have := hiE_ge (e 3); have := hiE_ge (e 4)
  have hc : t = 1 ∨ t = 2 ∨ t = 3 ∨ t = 4 := by omega
  rcases hc with rfl | rfl | rfl | rfl <;> omega
theorem take_succ_sum {q : List Int} {k : Nat} {x : Int} (h : q[k]? = some x) : (q.take (k + 1)).sum = (q.take k).sum + x := by
  obtain ⟨hk, rfl⟩ := List.getElem?_eq_some_iff.1 h
  rw [List.take_succ_eq_append_getElem hk, List.sum_append]; simp
abbrev SeT : Type := Int × (List law10_Deed) × Int × Int × (List Pending) × Int × Int × Int × (List Int) × (List Int) × (List Int) × (List Int) × (List Int) × (List Int) × (List Int) × (List Int) × (List Int) × (List Int) × (List Int) × (List Int) × (List Int) × (List Int) × (List Int) × Unit
abbrev seT (d : List law10_Deed) (b c : Int) (l : List Pending) (mn mx v : Int) (s e a : Fn5) : SeT := (v, d, b, c, l, mn, mx, v, s 0, s 1, s 2, s 3, s 4, e 0, e 1, e 2, e 3, e 4, a 0, a 1, a 2, a 3, a 4, ())
theorem commit1 (hn : 1003 ≤ n) (h : Hist i s e a) (hI : Inv i l mn mx v s e) (hi : i ≤ 900) (j16 : SeT → Option Bool) (d : List law10_Deed) (b c : Int) :
    ∃ l', law10_EscrowSerial_l18 n j16 n (v, 1, d, b, c, ((a 1).length : Int), 0, l, mn, mx, v, a 1, s 0, s 1, s 2, s 3, s 4, e 0, e 1, e 2, e 3, e 4, a 0, a 2, a 3, a 4, ()) = j16 (seT d b c l' mn mx (v + (s 1).sum) (upd s 1 []) (upd e 1 []) (upd a 1 [])) ∧ Inv i l' mn mx (v + (s 1).sum) (upd s 1 []) (upd e 1 []) := by
  obtain ⟨l', g1, g2⟩ := hI.over (n := n) hn hi (t := 1) (by omega) true
  rw [show (if true = true then (s 1).sum else 0) = (s 1).sum from rfl] at g1 g2
  have g1' : law10_book_over n 1 true l mn mx v (s 0) (s 1) (s 2) (s 3) (s 4) (e 0) (e 1) (e 2) (e 3) (e 4) = _ := g1
  refine ⟨l', ?_, g2⟩
  have hlen := h.len 1
  have hs := h.sum 1
  have hb1 := hI.b1; have hb4 := hI.b4
  have st : law10_EscrowSerial_l18 n j16 n (v, 1, d, b, c, ((a 1).length : Int), 0, l, mn, mx, v, a 1, s 0, s 1, s 2, s 3, s 4, e 0, e 1, e 2, e 3, e 4, a 0, a 2, a 3, a 4, ()) = law10_EscrowSerial_l18 n j16 n (v + ((a 1).take 0).sum, 1, d, b, c, ((a 1).length : Int), ((0 : Nat) : Int), l, mn, mx, v, a 1, s 0, s 1, s 2, s 3, s 4, e 0, e 1, e 2, e 3, e 4, a 0, a 2, a 3, a 4, ()) := by simp
  rw [st]
  unfold law10_EscrowSerial_l18
  refine loop_to _ (a 1).length (fun (k : Nat) (_ : Unit) => (v + ((a 1).take k).sum, 1, d, b, c, ((a 1).length : Int), (k : Int), l, mn, mx, v, a 1, s 0, s 1, s 2, s 3, s 4, e 0, e 1, e 2, e 3, e 4, a 0, a 2, a 3, a 4, ())) (fun _ _ => True) (fun r k _ hk _ => ?_) (fun r _ _ => ?_) n 0 () (Nat.zero_le _) (by omega) trivial
  · refine .inr ⟨(), ?_, trivial⟩
    have hx := get_some hk
    have hw := h.within hI (t := 1) (by omega) (k + 1)
    rw [take_succ_sum hx] at hw
    have hwr : IntKind.wrap .i64 (v + ((a 1).take k).sum + (a 1)[k]) = v + ((a 1).take (k + 1)).sum := by rw [take_succ_sum hx, wrap_in (by omega)]; omega
    rw [← take_succ_sum hx] at hw
    simp only [lt_dec hk, cond_true, idx_nat, hx, Option.bind_some, hwr, jn, decide_eq_false (show ¬ v + ((a 1).take (k + 1)).sum < mn by omega), decide_eq_false (show ¬ v + ((a 1).take (k + 1)).sum > mx by omega), cond_false, wrap_succ (show k < 4611686018427387904 by omega)]
  · dsimp only
    rw [ge_dec (Nat.lt_irrefl _), cond_false]
    rw [show decide ((1 : Int) = 0) = false from rfl, cond_false, show decide ((1 : Int) = 1) = true from rfl, cond_true, g1', Option.bind_some, List.take_length, hs]
    dsimp only [jn, bkOf]
    rw [Bool.not_true, cond_false, bne_self_eq_false, cond_false]
    try rfl
theorem commit2 (hn : 1003 ≤ n) (h : Hist i s e a) (hI : Inv i l mn mx v s e) (hi : i ≤ 900) (j16 : SeT → Option Bool) (d : List law10_Deed) (b c : Int) :
    ∃ l', law10_EscrowSerial_l19 n j16 n (v, 2, d, b, c, ((a 2).length : Int), 0, l, mn, mx, v, a 2, s 0, s 1, s 2, s 3, s 4, e 0, e 1, e 2, e 3, e 4, a 0, a 1, a 3, a 4, ()) = j16 (seT d b c l' mn mx (v + (s 2).sum) (upd s 2 []) (upd e 2 []) (upd a 2 [])) ∧ Inv i l' mn mx (v + (s 2).sum) (upd s 2 []) (upd e 2 []) := by
  obtain ⟨l', g1, g2⟩ := hI.over (n := n) hn hi (t := 2) (by omega) true
  rw [show (if true = true then (s 2).sum else 0) = (s 2).sum from rfl] at g1 g2
  have g1' : law10_book_over n 2 true l mn mx v (s 0) (s 1) (s 2) (s 3) (s 4) (e 0) (e 1) (e 2) (e 3) (e 4) = _ := g1
  refine ⟨l', ?_, g2⟩
  have hlen := h.len 2
  have hs := h.sum 2
  have hb1 := hI.b1; have hb4 := hI.b4
  have st : law10_EscrowSerial_l19 n j16 n (v, 2, d, b, c, ((a 2).length : Int), 0, l, mn, mx, v, a 2, s 0, s 1, s 2, s 3, s 4, e 0, e 1, e 2, e 3, e 4, a 0, a 1, a 3, a 4, ()) = law10_EscrowSerial_l19 n j16 n (v + ((a 2).take 0).sum, 2, d, b, c, ((a 2).length : Int), ((0 : Nat) : Int), l, mn, mx, v, a 2, s 0, s 1, s 2, s 3, s 4, e 0, e 1, e 2, e 3, e 4, a 0, a 1, a 3, a 4, ()) := by simp
  rw [st]
  unfold law10_EscrowSerial_l19
  refine loop_to _ (a 2).length (fun (k : Nat) (_ : Unit) => (v + ((a 2).take k).sum, 2, d, b, c, ((a 2).length : Int), (k : Int), l, mn, mx, v, a 2, s 0, s 1, s 2, s 3, s 4, e 0, e 1, e 2, e 3, e 4, a 0, a 1, a 3, a 4, ())) (fun _ _ => True) (fun r k _ hk _ => ?_) (fun r _ _ => ?_) n 0 () (Nat.zero_le _) (by omega) trivial
  · refine .inr ⟨(), ?_, trivial⟩
    have hx := get_some hk
    have hw := h.within hI (t := 2) (by omega) (k + 1)
    rw [take_succ_sum hx] at hw
    have hwr : IntKind.wrap .i64 (v + ((a 2).take k).sum + (a 2)[k]) = v + ((a 2).take (k + 1)).sum := by rw [take_succ_sum hx, wrap_in (by omega)]; omega
    rw [← take_succ_sum hx] at hw
    simp only [lt_dec hk, cond_true, idx_nat, hx, Option.bind_some, hwr, jn, decide_eq_false (show ¬ v + ((a 2).take (k + 1)).sum < mn by omega), decide_eq_false (show ¬ v + ((a 2).take (k + 1)).sum > mx by omega), cond_false, wrap_succ (show k < 4611686018427387904 by omega)]
  · dsimp only
    rw [ge_dec (Nat.lt_irrefl _), cond_false]
    rw [show decide ((2 : Int) = 0) = false from rfl, cond_false, show decide ((2 : Int) = 1) = false from rfl, cond_false, show decide ((2 : Int) = 2) = true from rfl, cond_true, g1', Option.bind_some, List.take_length, hs]
    dsimp only [jn, bkOf]
    rw [Bool.not_true, cond_false, bne_self_eq_false, cond_false]
    try rfl
theorem commit3 (hn : 1003 ≤ n) (h : Hist i s e a) (hI : Inv i l mn mx v s e) (hi : i ≤ 900) (j16 : SeT → Option Bool) (d : List law10_Deed) (b c : Int) :
    ∃ l', law10_EscrowSerial_l20 n j16 n (v, 3, d, b, c, ((a 3).length : Int), 0, l, mn, mx, v, a 3, s 0, s 1, s 2, s 3, s 4, e 0, e 1, e 2, e 3, e 4, a 0, a 1, a 2, a 4, ()) = j16 (seT d b c l' mn mx (v + (s 3).sum) (upd s 3 []) (upd e 3 []) (upd a 3 [])) ∧ Inv i l' mn mx (v + (s 3).sum) (upd s 3 []) (upd e 3 []) := by
  obtain ⟨l', g1, g2⟩ := hI.over (n := n) hn hi (t := 3) (by omega) true
  rw [show (if true = true then (s 3).sum else 0) = (s 3).sum from rfl] at g1 g2
  have g1' : law10_book_over n 3 true l mn mx v (s 0) (s 1) (s 2) (s 3) (s 4) (e 0) (e 1) (e 2) (e 3) (e 4) = _ := g1
  refine ⟨l', ?_, g2⟩
  have hlen := h.len 3
  have hs := h.sum 3
  have hb1 := hI.b1; have hb4 := hI.b4
  have st : law10_EscrowSerial_l20 n j16 n (v, 3, d, b, c, ((a 3).length : Int), 0, l, mn, mx, v, a 3, s 0, s 1, s 2, s 3, s 4, e 0, e 1, e 2, e 3, e 4, a 0, a 1, a 2, a 4, ()) = law10_EscrowSerial_l20 n j16 n (v + ((a 3).take 0).sum, 3, d, b, c, ((a 3).length : Int), ((0 : Nat) : Int), l, mn, mx, v, a 3, s 0, s 1, s 2, s 3, s 4, e 0, e 1, e 2, e 3, e 4, a 0, a 1, a 2, a 4, ()) := by simp
  rw [st]
  unfold law10_EscrowSerial_l20
  refine loop_to _ (a 3).length (fun (k : Nat) (_ : Unit) => (v + ((a 3).take k).sum, 3, d, b, c, ((a 3).length : Int), (k : Int), l, mn, mx, v, a 3, s 0, s 1, s 2, s 3, s 4, e 0, e 1, e 2, e 3, e 4, a 0, a 1, a 2, a 4, ())) (fun _ _ => True) (fun r k _ hk _ => ?_) (fun r _ _ => ?_) n 0 () (Nat.zero_le _) (by omega) trivial
  · refine .inr ⟨(), ?_, trivial⟩
    have hx := get_some hk
    have hw := h.within hI (t := 3) (by omega) (k + 1)
    rw [take_succ_sum hx] at hw
    have hwr : IntKind.wrap .i64 (v + ((a 3).take k).sum + (a 3)[k]) = v + ((a 3).take (k + 1)).sum := by rw [take_succ_sum hx, wrap_in (by omega)]; omega
    rw [← take_succ_sum hx] at hw
    simp only [lt_dec hk, cond_true, idx_nat, hx, Option.bind_some, hwr, jn, decide_eq_false (show ¬ v + ((a 3).take (k + 1)).sum < mn by omega), decide_eq_false (show ¬ v + ((a 3).take (k + 1)).sum > mx by omega), cond_false, wrap_succ (show k < 4611686018427387904 by omega)]
  · dsimp only
    rw [ge_dec (Nat.lt_irrefl _), cond_false]
    rw [show decide ((3 : Int) = 0) = false from rfl, cond_false, show decide ((3 : Int) = 1) = false from rfl, cond_false, show decide ((3 : Int) = 2) = false from rfl, cond_false, show decide ((3 : Int) = 3) = true from rfl, cond_true, g1', Option.bind_some, List.take_length, hs]
    dsimp only [jn, bkOf]
    rw [Bool.not_true, cond_false, bne_self_eq_false, cond_false]
    try rfl
theorem commit4 (hn : 1003 ≤ n) (h : Hist i s e a) (hI : Inv i l mn mx v s e) (hi : i ≤ 900) (j16 : SeT → Option Bool) (d : List law10_Deed) (b c : Int) :
    ∃ l', law10_EscrowSerial_l21 n j16 n (v, 4, d, b, c, ((a 4).length : Int), 0, l, mn, mx, v, a 4, s 0, s 1, s 2, s 3, s 4, e 0, e 1, e 2, e 3, e 4, a 0, a 1, a 2, a 3, ()) = j16 (seT d b c l' mn mx (v + (s 4).sum) (upd s 4 []) (upd e 4 []) (upd a 4 [])) ∧ Inv i l' mn mx (v + (s 4).sum) (upd s 4 []) (upd e 4 []) := by
  obtain ⟨l', g1, g2⟩ := hI.over (n := n) hn hi (t := 4) (by omega) true
  rw [show (if true = true then (s 4).sum else 0) = (s 4).sum from rfl] at g1 g2
  have g1' : law10_book_over n 4 true l mn mx v (s 0) (s 1) (s 2) (s 3) (s 4) (e 0) (e 1) (e 2) (e 3) (e 4) = _ := g1
  refine ⟨l', ?_, g2⟩
  have hlen := h.len 4
  have hs := h.sum 4
  have hb1 := hI.b1; have hb4 := hI.b4
  have st : law10_EscrowSerial_l21 n j16 n (v, 4, d, b, c, ((a 4).length : Int), 0, l, mn, mx, v, a 4, s 0, s 1, s 2, s 3, s 4, e 0, e 1, e 2, e 3, e 4, a 0, a 1, a 2, a 3, ()) = law10_EscrowSerial_l21 n j16 n (v + ((a 4).take 0).sum, 4, d, b, c, ((a 4).length : Int), ((0 : Nat) : Int), l, mn, mx, v, a 4, s 0, s 1, s 2, s 3, s 4, e 0, e 1, e 2, e 3, e 4, a 0, a 1, a 2, a 3, ()) := by simp
  rw [st]
  unfold law10_EscrowSerial_l21
  refine loop_to _ (a 4).length (fun (k : Nat) (_ : Unit) => (v + ((a 4).take k).sum, 4, d, b, c, ((a 4).length : Int), (k : Int), l, mn, mx, v, a 4, s 0, s 1, s 2, s 3, s 4, e 0, e 1, e 2, e 3, e 4, a 0, a 1, a 2, a 3, ())) (fun _ _ => True) (fun r k _ hk _ => ?_) (fun r _ _ => ?_) n 0 () (Nat.zero_le _) (by omega) trivial
  · refine .inr ⟨(), ?_, trivial⟩
    have hx := get_some hk
    have hw := h.within hI (t := 4) (by omega) (k + 1)
    rw [take_succ_sum hx] at hw
    have hwr : IntKind.wrap .i64 (v + ((a 4).take k).sum + (a 4)[k]) = v + ((a 4).take (k + 1)).sum := by rw [take_succ_sum hx, wrap_in (by omega)]; omega
    rw [← take_succ_sum hx] at hw
    simp only [lt_dec hk, cond_true, idx_nat, hx, Option.bind_some, hwr, jn, decide_eq_false (show ¬ v + ((a 4).take (k + 1)).sum < mn by omega), decide_eq_false (show ¬ v + ((a 4).take (k + 1)).sum > mx by omega), cond_false, wrap_succ (show k < 4611686018427387904 by omega)]
  · dsimp only
    rw [ge_dec (Nat.lt_irrefl _), cond_false]
    rw [show decide ((4 : Int) = 0) = false from rfl, cond_false, show decide ((4 : Int) = 1) = false from rfl, cond_false, show decide ((4 : Int) = 2) = false from rfl, cond_false, show decide ((4 : Int) = 3) = false from rfl, cond_false, show decide ((4 : Int) = 4) = true from rfl, cond_true, g1', Option.bind_some, List.take_length, hs]
    dsimp only [jn, bkOf]
    rw [Bool.not_true, cond_false, bne_self_eq_false, cond_false]
    try rfl
end
theorem serial_j4 {N i : Nat} {mn mx : Int} (hi : i ≤ 80) (r : SeT → Option Bool) (l : List law10_Deed) (l' : List Pending) (v' : Int) (s' e' a' : Fn5) : law10_EscrowSerial_j4 N r (seT l (l.length : Int) (i : Int) l' mn mx v' s' e' a') = r (seT l (l.length : Int) ((i + 1 : Nat) : Int) l' mn mx v' s' e' a') := by
  unfold law10_EscrowSerial_j4
  dsimp only
  rw [wrap_succ (show i < 4611686018427387904 by omega)]
section
variable {N i : Nat} {rows : List Pending} {mn mx v : Int} {s e a : Fn5}
theorem serial_adds (hn : 1003 ≤ N) (hi : i ≤ 80) (hz : Inv i rows mn mx v s e) (hh : Hist i s e a) {t : Nat} (ht2 : 1 ≤ t) (ht3 : t ≤ 4) (r : SeT → Option Bool) (l : List law10_Deed) (x : law10_Deed) {zk : Int} (zb : Int) (hb1 : remP x.by_ 2000 = some zb) (hb2 : -2000 < zb) (hb3 : zb < 2000) : ∃ z' : (List Pending) × Int × Fn5 × Fn5 × Fn5, law10_EscrowSerial_j3 N r (v, (t : Int), l, (l.length : Int), (i : Int), zk, true, rows, mn, mx, v, x, s 0, s 1, s 2, s 3, s 4, e 0, e 1, e 2, e 3, e 4, a 0, a 1, a 2, a 3, a 4, ()) = r (seT l (l.length : Int) ((i + 1 : Nat) : Int) z'.1 mn mx z'.2.1 z'.2.2.1 z'.2.2.2.1 z'.2.2.2.2) ∧ Inv (i + 1) z'.1 mn mx z'.2.1 z'.2.2.1 z'.2.2.2.1 ∧ Hist (i + 1) z'.2.2.1 z'.2.2.2.1 z'.2.2.2.2 := by
  have hj4 : ∀ (l' : List Pending) (v' : Int) (s' e' a' : Fn5), law10_EscrowSerial_j4 N r (seT l (l.length : Int) (i : Int) l' mn mx v' s' e' a') = r (seT l (l.length : Int) ((i + 1 : Nat) : Int) l' mn mx v' s' e' a') := fun l' v' s' e' a' => serial_j4 hi r l l' v' s' e' a'
  have hc4 : t = 1 ∨ t = 2 ∨ t = 3 ∨ t = 4 := by omega
  have app1 : ∀ u x, app 8 (a u) [x] = some (a u ++ [x]) := fun u x => app_lt (by have := hh.len u; simp; omega) (by decide)
  obtain ⟨l', s', e', g1, g2, g3⟩ := hz.adds (n := N) hn (by omega) ⟨ht2, ht3⟩ ⟨hb2, hb3⟩
  rcases g3 with ⟨rfl, rfl⟩ | ⟨rfl, rfl⟩
  · refine ⟨(l', v, s', e', a), ?_, g2, hh.mono (by omega)⟩
    refine Eq.trans ?_ (hj4 l' v s' e' a)
    unfold law10_EscrowSerial_j3
    dsimp only [jn]
    refine (condT' rfl).trans ?_
    rcases hc4 with rfl | rfl | rfl | rfl
    · have g1' : law10_book_adds N 1 zb rows mn mx v (s' 0) (s' 1) (s' 2) (s' 3) (s' 4) (e' 0) (e' 1) (e' 2) (e' 3) (e' 4) = _ := g1
      refine (condF' (show decide (((1 : Nat) : Int) = 0) = false from rfl)).trans ?_
      refine (condT' (show decide (((1 : Nat) : Int) = 1) = true from rfl)).trans ?_
      rw [hb1, Option.bind_some, g1', Option.bind_some]
      dsimp only [bkOf]
      rw [Bool.not_true, cond_false, decide_eq_false (show ¬ ((s' 1).length : Int) > ((s' 1).length : Int) by omega), cond_false]
      try rfl
    · have g1' : law10_book_adds N 2 zb rows mn mx v (s' 0) (s' 1) (s' 2) (s' 3) (s' 4) (e' 0) (e' 1) (e' 2) (e' 3) (e' 4) = _ := g1
      refine (condF' (show decide (((2 : Nat) : Int) = 0) = false from rfl)).trans ?_
      refine (condF' (show decide (((2 : Nat) : Int) = 1) = false from rfl)).trans ?_
      refine (condT' (show decide (((2 : Nat) : Int) = 2) = true from rfl)).trans ?_
      rw [hb1, Option.bind_some, g1', Option.bind_some]
      dsimp only [bkOf]
      rw [Bool.not_true, cond_false, decide_eq_false (show ¬ ((s' 2).length : Int) > ((s' 2).length : Int) by omega), cond_false]
      try rfl
    · have g1' : law10_book_adds N 3 zb rows mn mx v (s' 0) (s' 1) (s' 2) (s' 3) (s' 4) (e' 0) (e' 1) (e' 2) (e' 3) (e' 4) = _ := g1
      refine (condF' (show decide (((3 : Nat) : Int) = 0) = false from rfl)).trans ?_
      refine (condF' (show decide (((3 : Nat) : Int) = 1) = false from rfl)).trans ?_
      refine (condF' (show decide (((3 : Nat) : Int) = 2) = false from rfl)).trans ?_
      refine (condT' (show decide (((3 : Nat) : Int) = 3) = true from rfl)).trans ?_
      rw [hb1, Option.bind_some, g1', Option.bind_some]
      dsimp only [bkOf]
      rw [Bool.not_true, cond_false, decide_eq_false (show ¬ ((s' 3).length : Int) > ((s' 3).length : Int) by omega), cond_false]
      try rfl
    · have g1' : law10_book_adds N 4 zb rows mn mx v (s' 0) (s' 1) (s' 2) (s' 3) (s' 4) (e' 0) (e' 1) (e' 2) (e' 3) (e' 4) = _ := g1
      refine (condF' (show decide (((4 : Nat) : Int) = 0) = false from rfl)).trans ?_
      refine (condF' (show decide (((4 : Nat) : Int) = 1) = false from rfl)).trans ?_
      refine (condF' (show decide (((4 : Nat) : Int) = 2) = false from rfl)).trans ?_
      refine (condF' (show decide (((4 : Nat) : Int) = 3) = false from rfl)).trans ?_
      refine (condT' (show decide (((4 : Nat) : Int) = 4) = true from rfl)).trans ?_
      rw [hb1, Option.bind_some, g1', Option.bind_some]
      dsimp only [bkOf]
      rw [Bool.not_true, cond_false, decide_eq_false (show ¬ ((s' 4).length : Int) > ((s' 4).length : Int) by omega), cond_false]
      try rfl
  · refine ⟨(l', v, _, _, upd a t (a t ++ [zb])), ?_, g2, hh.added t zb⟩
    refine Eq.trans ?_ (hj4 l' v _ _ _)
    unfold law10_EscrowSerial_j3
    dsimp only [jn]
    refine (condT' rfl).trans ?_
    have hgt : decide (((upd s t (s t ++ [zb]) t).length : Int) > ((s t).length : Int)) = true := decide_eq_true (by rw [upd_at]; simp; omega)
    rcases hc4 with rfl | rfl | rfl | rfl
    · have g1' : law10_book_adds N 1 zb rows mn mx v (s 0) (s 1) (s 2) (s 3) (s 4) (e 0) (e 1) (e 2) (e 3) (e 4) = _ := g1
      refine (condF' (show decide (((1 : Nat) : Int) = 0) = false from rfl)).trans ?_
      refine (condT' (show decide (((1 : Nat) : Int) = 1) = true from rfl)).trans ?_
      rw [hb1, Option.bind_some, g1', Option.bind_some]
      dsimp only [bkOf]
      rw [Bool.not_true, cond_false, hgt, cond_true, Option.bind_some, app1, Option.bind_some]
      try rfl
    · have g1' : law10_book_adds N 2 zb rows mn mx v (s 0) (s 1) (s 2) (s 3) (s 4) (e 0) (e 1) (e 2) (e 3) (e 4) = _ := g1
      refine (condF' (show decide (((2 : Nat) : Int) = 0) = false from rfl)).trans ?_
      refine (condF' (show decide (((2 : Nat) : Int) = 1) = false from rfl)).trans ?_
      refine (condT' (show decide (((2 : Nat) : Int) = 2) = true from rfl)).trans ?_
      rw [hb1, Option.bind_some, g1', Option.bind_some]
      dsimp only [bkOf]
      rw [Bool.not_true, cond_false, hgt, cond_true, Option.bind_some, app1, Option.bind_some]
      try rfl
    · have g1' : law10_book_adds N 3 zb rows mn mx v (s 0) (s 1) (s 2) (s 3) (s 4) (e 0) (e 1) (e 2) (e 3) (e 4) = _ := g1
      refine (condF' (show decide (((3 : Nat) : Int) = 0) = false from rfl)).trans ?_
      refine (condF' (show decide (((3 : Nat) : Int) = 1) = false from rfl)).trans ?_
      refine (condF' (show decide (((3 : Nat) : Int) = 2) = false from rfl)).trans ?_
      refine (condT' (show decide (((3 : Nat) : Int) = 3) = true from rfl)).trans ?_
      rw [hb1, Option.bind_some, g1', Option.bind_some]
      dsimp only [bkOf]
      rw [Bool.not_true, cond_false, hgt, cond_true, Option.bind_some, app1, Option.bind_some]
      try rfl
    · have g1' : law10_book_adds N 4 zb rows mn mx v (s 0) (s 1) (s 2) (s 3) (s 4) (e 0) (e 1) (e 2) (e 3) (e 4) = _ := g1
      refine (condF' (show decide (((4 : Nat) : Int) = 0) = false from rfl)).trans ?_
      refine (condF' (show decide (((4 : Nat) : Int) = 1) = false from rfl)).trans ?_
      refine (condF' (show decide (((4 : Nat) : Int) = 2) = false from rfl)).trans ?_
      refine (condF' (show decide (((4 : Nat) : Int) = 3) = false from rfl)).trans ?_
      refine (condT' (show decide (((4 : Nat) : Int) = 4) = true from rfl)).trans ?_
      rw [hb1, Option.bind_some, g1', Option.bind_some]
      dsimp only [bkOf]
      rw [Bool.not_true, cond_false, hgt, cond_true, Option.bind_some, app1, Option.bind_some]
      try rfl
theorem serial_back (hn : 1003 ≤ N) (hi : i ≤ 80) (hz : Inv i rows mn mx v s e) (hh : Hist i s e a) {t : Nat} (ht2 : 1 ≤ t) (ht3 : t ≤ 4) (r : SeT → Option Bool) (l : List law10_Deed) (x : law10_Deed) {zk : Int} (hk : zk = 3) : ∃ z' : (List Pending) × Int × Fn5 × Fn5 × Fn5, law10_EscrowSerial_j3 N r (v, (t : Int), l, (l.length : Int), (i : Int), zk, false, rows, mn, mx, v, x, s 0, s 1, s 2, s 3, s 4, e 0, e 1, e 2, e 3, e 4, a 0, a 1, a 2, a 3, a 4, ()) = r (seT l (l.length : Int) ((i + 1 : Nat) : Int) z'.1 mn mx z'.2.1 z'.2.2.1 z'.2.2.2.1 z'.2.2.2.2) ∧ Inv (i + 1) z'.1 mn mx z'.2.1 z'.2.2.1 z'.2.2.2.1 ∧ Hist (i + 1) z'.2.2.1 z'.2.2.2.1 z'.2.2.2.2 := by
  have hj4 : ∀ (l' : List Pending) (v' : Int) (s' e' a' : Fn5), law10_EscrowSerial_j4 N r (seT l (l.length : Int) (i : Int) l' mn mx v' s' e' a') = r (seT l (l.length : Int) ((i + 1 : Nat) : Int) l' mn mx v' s' e' a') := fun l' v' s' e' a' => serial_j4 hi r l l' v' s' e' a'
  have hc4 : t = 1 ∨ t = 2 ∨ t = 3 ∨ t = 4 := by omega
  have app1 : ∀ u x, app 8 (a u) [x] = some (a u ++ [x]) := fun u x => app_lt (by have := hh.len u; simp; omega) (by decide)
  rcases last_cases (s t) with h0 | ⟨q, d, hq⟩
  · refine ⟨(rows, v, s, e, a), ?_, hz.mono (by omega), hh.mono (by omega)⟩
    refine Eq.trans ?_ (hj4 rows v s e a)
    unfold law10_EscrowSerial_j3
    dsimp only [jn]
    refine (condF' rfl).trans ?_
    refine (condT' (show (zk == 3) = true from by rw [hk]; rfl)).trans ?_
    have hle : decide (((s t).length : Int) > 0) = false := decide_eq_false (by rw [h0]; simp)
    rcases hc4 with rfl | rfl | rfl | rfl
    · refine (condF' (show decide (((1 : Nat) : Int) = 0) = false from rfl)).trans ?_
      refine (condT' (show decide (((1 : Nat) : Int) = 1) = true from rfl)).trans ?_
      refine (condF' hle).trans ?_
      rfl
    · refine (condF' (show decide (((2 : Nat) : Int) = 0) = false from rfl)).trans ?_
      refine (condF' (show decide (((2 : Nat) : Int) = 1) = false from rfl)).trans ?_
      refine (condT' (show decide (((2 : Nat) : Int) = 2) = true from rfl)).trans ?_
      refine (condF' hle).trans ?_
      rfl
    · refine (condF' (show decide (((3 : Nat) : Int) = 0) = false from rfl)).trans ?_
      refine (condF' (show decide (((3 : Nat) : Int) = 1) = false from rfl)).trans ?_
      refine (condF' (show decide (((3 : Nat) : Int) = 2) = false from rfl)).trans ?_
      refine (condT' (show decide (((3 : Nat) : Int) = 3) = true from rfl)).trans ?_
      refine (condF' hle).trans ?_
      rfl
    · refine (condF' (show decide (((4 : Nat) : Int) = 0) = false from rfl)).trans ?_
      refine (condF' (show decide (((4 : Nat) : Int) = 1) = false from rfl)).trans ?_
      refine (condF' (show decide (((4 : Nat) : Int) = 2) = false from rfl)).trans ?_
      refine (condF' (show decide (((4 : Nat) : Int) = 3) = false from rfl)).trans ?_
      refine (condT' (show decide (((4 : Nat) : Int) = 4) = true from rfl)).trans ?_
      refine (condF' hle).trans ?_
      rfl
  · obtain ⟨l', g1, g2⟩ := hz.back (n := N) hn (by omega) ⟨ht2, ht3⟩
    have hdl : (s t).dropLast = q := by rw [hq]; simp
    rw [hdl] at g1 g2
    have hlen := hz.ls t
    have hql : (s t).length = q.length + 1 := by rw [hq]; simp
    have hgt : decide (((s t).length : Int) > 0) = true := decide_eq_true (by omega)
    have hw : IntKind.wrap .i64 (((s t).length : Int) - 1) = (q.length : Int) := by rw [hql]; exact wrap_pred (by omega)
    have hix : idx (s t) (q.length : Int) = some d := by rw [hq, idx_nat]; simp
    have hp2 := hz.pre t q.length
    rw [hq, List.take_left] at hp2
    have hen := hz.ends ht3
    have hs2 := hz.sum2 ht3
    have hsd : (s t).sum = q.sum + d := by rw [hq]; simp
    have hw2 : IntKind.wrap .i64 (0 - d) = 0 - d := wrap_in (by omega)
    refine ⟨(l', v, upd s t q, e, upd a t (a t ++ [0 - d])), ?_, g2.mono (by omega), hh.back hz hq⟩
    refine Eq.trans ?_ (hj4 l' v _ _ _)
    unfold law10_EscrowSerial_j3
    dsimp only [jn]
    refine (condF' rfl).trans ?_
    refine (condT' (show (zk == 3) = true from by rw [hk]; rfl)).trans ?_
    rcases hc4 with rfl | rfl | rfl | rfl
    · have g1' : law10_book_back N 1 rows mn mx v (s 0) (s 1) (s 2) (s 3) (s 4) (e 0) (e 1) (e 2) (e 3) (e 4) = _ := g1
      refine (condF' (show decide (((1 : Nat) : Int) = 0) = false from rfl)).trans ?_
      refine (condT' (show decide (((1 : Nat) : Int) = 1) = true from rfl)).trans ?_
      refine (condT' hgt).trans ?_
      rw [hw, hix, Option.bind_some, Option.bind_some, hw2, app1, Option.bind_some, g1', Option.bind_some]
      dsimp only [bkOf]
      rw [Bool.not_true, cond_false]
      try rfl
    · have g1' : law10_book_back N 2 rows mn mx v (s 0) (s 1) (s 2) (s 3) (s 4) (e 0) (e 1) (e 2) (e 3) (e 4) = _ := g1
      refine (condF' (show decide (((2 : Nat) : Int) = 0) = false from rfl)).trans ?_
      refine (condF' (show decide (((2 : Nat) : Int) = 1) = false from rfl)).trans ?_
      refine (condT' (show decide (((2 : Nat) : Int) = 2) = true from rfl)).trans ?_
      refine (condT' hgt).trans ?_
      rw [hw, hix, Option.bind_some, Option.bind_some, hw2, app1, Option.bind_some, g1', Option.bind_some]
      dsimp only [bkOf]
      rw [Bool.not_true, cond_false]
      try rfl
    · have g1' : law10_book_back N 3 rows mn mx v (s 0) (s 1) (s 2) (s 3) (s 4) (e 0) (e 1) (e 2) (e 3) (e 4) = _ := g1
      refine (condF' (show decide (((3 : Nat) : Int) = 0) = false from rfl)).trans ?_
      refine (condF' (show decide (((3 : Nat) : Int) = 1) = false from rfl)).trans ?_
      refine (condF' (show decide (((3 : Nat) : Int) = 2) = false from rfl)).trans ?_
      refine (condT' (show decide (((3 : Nat) : Int) = 3) = true from rfl)).trans ?_
      refine (condT' hgt).trans ?_
      rw [hw, hix, Option.bind_some, Option.bind_some, hw2, app1, Option.bind_some, g1', Option.bind_some]
      dsimp only [bkOf]
      rw [Bool.not_true, cond_false]
      try rfl
    · have g1' : law10_book_back N 4 rows mn mx v (s 0) (s 1) (s 2) (s 3) (s 4) (e 0) (e 1) (e 2) (e 3) (e 4) = _ := g1
      refine (condF' (show decide (((4 : Nat) : Int) = 0) = false from rfl)).trans ?_
      refine (condF' (show decide (((4 : Nat) : Int) = 1) = false from rfl)).trans ?_
      refine (condF' (show decide (((4 : Nat) : Int) = 2) = false from rfl)).trans ?_
      refine (condF' (show decide (((4 : Nat) : Int) = 3) = false from rfl)).trans ?_
      refine (condT' (show decide (((4 : Nat) : Int) = 4) = true from rfl)).trans ?_
      refine (condT' hgt).trans ?_
      rw [hw, hix, Option.bind_some, Option.bind_some, hw2, app1, Option.bind_some, g1', Option.bind_some]
      dsimp only [bkOf]
      rw [Bool.not_true, cond_false]
      try rfl
theorem serial_over (hn : 1003 ≤ N) (hi : i ≤ 80) (hz : Inv i rows mn mx v s e) (hh : Hist i s e a) {t : Nat} (ht2 : 1 ≤ t) (ht3 : t ≤ 4) (r : SeT → Option Bool) (l : List law10_Deed) (x : law10_Deed) {zk : Int} (hk : zk = 4 ∨ zk = 5) : ∃ z' : (List Pending) × Int × Fn5 × Fn5 × Fn5, law10_EscrowSerial_j3 N r (v, (t : Int), l, (l.length : Int), (i : Int), zk, false, rows, mn, mx, v, x, s 0, s 1, s 2, s 3, s 4, e 0, e 1, e 2, e 3, e 4, a 0, a 1, a 2, a 3, a 4, ()) = r (seT l (l.length : Int) ((i + 1 : Nat) : Int) z'.1 mn mx z'.2.1 z'.2.2.1 z'.2.2.2.1 z'.2.2.2.2) ∧ Inv (i + 1) z'.1 mn mx z'.2.1 z'.2.2.1 z'.2.2.2.1 ∧ Hist (i + 1) z'.2.2.1 z'.2.2.2.1 z'.2.2.2.2 := by
  have hj4 : ∀ (l' : List Pending) (v' : Int) (s' e' a' : Fn5), law10_EscrowSerial_j4 N r (seT l (l.length : Int) (i : Int) l' mn mx v' s' e' a') = r (seT l (l.length : Int) ((i + 1 : Nat) : Int) l' mn mx v' s' e' a') := fun l' v' s' e' a' => serial_j4 hi r l l' v' s' e' a'
  have hc4 : t = 1 ∨ t = 2 ∨ t = 3 ∨ t = 4 := by omega
  have app1 : ∀ u x, app 8 (a u) [x] = some (a u ++ [x]) := fun u x => app_lt (by have := hh.len u; simp; omega) (by decide)
  rcases hk with hk | hk
  · have fin : ∃ l', (law10_EscrowSerial_j3 N r (v, (t : Int), l, (l.length : Int), (i : Int), zk, false, rows, mn, mx, v, x, s 0, s 1, s 2, s 3, s 4, e 0, e 1, e 2, e 3, e 4, a 0, a 1, a 2, a 3, a 4, ()) = law10_EscrowSerial_j4 N r (seT l (l.length : Int) (i : Int) l' mn mx (v + (s t).sum) (upd s t []) (upd e t []) (upd a t []))) ∧ Inv i l' mn mx (v + (s t).sum) (upd s t []) (upd e t []) := by
      unfold law10_EscrowSerial_j3
      dsimp only [jn]
      rcases hc4 with rfl | rfl | rfl | rfl
      · obtain ⟨l', g1, g2⟩ := commit1 (n := N) hn hh hz (by omega) (law10_EscrowSerial_j16 N (law10_EscrowSerial_j10 N (law10_EscrowSerial_j4 N r))) l (l.length : Int) (i : Int)
        refine ⟨l', ?_, g2⟩
        refine (condF' rfl).trans ?_
        refine (condF' (show (zk == 3) = false from by rw [hk]; rfl)).trans ?_
        refine (condT' (show (zk == 4) = true from by rw [hk]; rfl)).trans ?_
        refine (condF' (show decide (((1 : Nat) : Int) = 0) = false from rfl)).trans ?_
        refine (condT' (show decide (((1 : Nat) : Int) = 1) = true from rfl)).trans ?_
        exact g1
      · obtain ⟨l', g1, g2⟩ := commit2 (n := N) hn hh hz (by omega) (law10_EscrowSerial_j16 N (law10_EscrowSerial_j10 N (law10_EscrowSerial_j4 N r))) l (l.length : Int) (i : Int)
        refine ⟨l', ?_, g2⟩
        refine (condF' rfl).trans ?_
        refine (condF' (show (zk == 3) = false from by rw [hk]; rfl)).trans ?_
        refine (condT' (show (zk == 4) = true from by rw [hk]; rfl)).trans ?_
        refine (condF' (show decide (((2 : Nat) : Int) = 0) = false from rfl)).trans ?_
        refine (condF' (show decide (((2 : Nat) : Int) = 1) = false from rfl)).trans ?_
        refine (condT' (show decide (((2 : Nat) : Int) = 2) = true from rfl)).trans ?_
        exact g1
      · obtain ⟨l', g1, g2⟩ := commit3 (n := N) hn hh hz (by omega) (law10_EscrowSerial_j16 N (law10_EscrowSerial_j10 N (law10_EscrowSerial_j4 N r))) l (l.length : Int) (i : Int)
        refine ⟨l', ?_, g2⟩
        refine (condF' rfl).trans ?_
        refine (condF' (show (zk == 3) = false from by rw [hk]; rfl)).trans ?_
        refine (condT' (show (zk == 4) = true from by rw [hk]; rfl)).trans ?_
        refine (condF' (show decide (((3 : Nat) : Int) = 0) = false from rfl)).trans ?_
        refine (condF' (show decide (((3 : Nat) : Int) = 1) = false from rfl)).trans ?_
        refine (condF' (show decide (((3 : Nat) : Int) = 2) = false from rfl)).trans ?_
        refine (condT' (show decide (((3 : Nat) : Int) = 3) = true from rfl)).trans ?_
        exact g1
      · obtain ⟨l', g1, g2⟩ := commit4 (n := N) hn hh hz (by omega) (law10_EscrowSerial_j16 N (law10_EscrowSerial_j10 N (law10_EscrowSerial_j4 N r))) l (l.length : Int) (i : Int)
        refine ⟨l', ?_, g2⟩
        refine (condF' rfl).trans ?_
        refine (condF' (show (zk == 3) = false from by rw [hk]; rfl)).trans ?_
        refine (condT' (show (zk == 4) = true from by rw [hk]; rfl)).trans ?_
        refine (condF' (show decide (((4 : Nat) : Int) = 0) = false from rfl)).trans ?_
        refine (condF' (show decide (((4 : Nat) : Int) = 1) = false from rfl)).trans ?_
        refine (condF' (show decide (((4 : Nat) : Int) = 2) = false from rfl)).trans ?_
        refine (condF' (show decide (((4 : Nat) : Int) = 3) = false from rfl)).trans ?_
        refine (condT' (show decide (((4 : Nat) : Int) = 4) = true from rfl)).trans ?_
        exact g1
    obtain ⟨l', g1, g2⟩ := fin
    exact ⟨(l', _, upd s t [], upd e t [], upd a t []), g1.trans (hj4 l' _ _ _ _), g2.mono (by omega), (hh.over t).mono (by omega)⟩
  · obtain ⟨l', g1, g2⟩ := hz.over (n := N) hn (by omega) ⟨ht2, ht3⟩ false
    rw [show (if false = true then (s t).sum else 0) = 0 from rfl, Int.add_zero] at g1 g2
    refine ⟨(l', v, upd s t [], upd e t [], upd a t []), ?_, g2.mono (by omega), (hh.over t).mono (by omega)⟩
    refine Eq.trans ?_ (hj4 l' _ _ _ _)
    unfold law10_EscrowSerial_j3
    dsimp only [jn]
    refine (condF' rfl).trans ?_
    refine (condF' (show (zk == 3) = false from by rw [hk]; rfl)).trans ?_
    refine (condF' (show (zk == 4) = false from by rw [hk]; rfl)).trans ?_
    rcases hc4 with rfl | rfl | rfl | rfl
    · have g1' : law10_book_over N 1 false rows mn mx v (s 0) (s 1) (s 2) (s 3) (s 4) (e 0) (e 1) (e 2) (e 3) (e 4) = _ := g1
      refine (condF' (show decide (((1 : Nat) : Int) = 0) = false from rfl)).trans ?_
      refine (condT' (show decide (((1 : Nat) : Int) = 1) = true from rfl)).trans ?_
      rw [g1', Option.bind_some]
      dsimp only [bkOf]
      rw [Bool.not_true, cond_false]
      try rfl
    · have g1' : law10_book_over N 2 false rows mn mx v (s 0) (s 1) (s 2) (s 3) (s 4) (e 0) (e 1) (e 2) (e 3) (e 4) = _ := g1
      refine (condF' (show decide (((2 : Nat) : Int) = 0) = false from rfl)).trans ?_
      refine (condF' (show decide (((2 : Nat) : Int) = 1) = false from rfl)).trans ?_
      refine (condT' (show decide (((2 : Nat) : Int) = 2) = true from rfl)).trans ?_
      rw [g1', Option.bind_some]
      dsimp only [bkOf]
      rw [Bool.not_true, cond_false]
      try rfl
    · have g1' : law10_book_over N 3 false rows mn mx v (s 0) (s 1) (s 2) (s 3) (s 4) (e 0) (e 1) (e 2) (e 3) (e 4) = _ := g1
      refine (condF' (show decide (((3 : Nat) : Int) = 0) = false from rfl)).trans ?_
      refine (condF' (show decide (((3 : Nat) : Int) = 1) = false from rfl)).trans ?_
      refine (condF' (show decide (((3 : Nat) : Int) = 2) = false from rfl)).trans ?_
      refine (condT' (show decide (((3 : Nat) : Int) = 3) = true from rfl)).trans ?_
      rw [g1', Option.bind_some]
      dsimp only [bkOf]
      rw [Bool.not_true, cond_false]
      try rfl
    · have g1' : law10_book_over N 4 false rows mn mx v (s 0) (s 1) (s 2) (s 3) (s 4) (e 0) (e 1) (e 2) (e 3) (e 4) = _ := g1
      refine (condF' (show decide (((4 : Nat) : Int) = 0) = false from rfl)).trans ?_
      refine (condF' (show decide (((4 : Nat) : Int) = 1) = false from rfl)).trans ?_
      refine (condF' (show decide (((4 : Nat) : Int) = 2) = false from rfl)).trans ?_
      refine (condF' (show decide (((4 : Nat) : Int) = 3) = false from rfl)).trans ?_
      refine (condT' (show decide (((4 : Nat) : Int) = 4) = true from rfl)).trans ?_
      rw [g1', Option.bind_some]
      dsimp only [bkOf]
      rw [Bool.not_true, cond_false]
      try rfl
end
theorem plainEscrowSerial (w : Arr2_int64) (l : List law10_Deed) (h1 : okT tab 9 (.st 9) w) (h2 : okT tab 9 (.sl (.st 10)) l) : ∃ n, law10_EscrowSerial n w l = some true := by
  obtain ⟨N, hN⟩ : ∃ N, N = 2000 := ⟨2000, rfl⟩
  refine ⟨N, ?_⟩
  have hn : 1003 ≤ N := by omega
  obtain ⟨z0, e0, a1, a2⟩ := bnds (show I64 w.a0 from h1.1)
  obtain ⟨z1, e1, a3, a4⟩ := bnds (show I64 w.a1 from h1.2.1)
  unfold law10_EscrowSerial
  simp only [wakes10 hn, e0, e1, Option.bind_some, Bool.not_true, cond_false, jn]
  rw [wrap_in (x := 0 - z0) (by omega)]
  have hI := inv0 (mn := 0 - z0) (mx := z1) (by omega) (by omega) (by omega) (by omega)
  have hH : Hist 0 s0 s0 s0 := ⟨fun _ => Nat.le_refl _, fun _ => rfl, fun _ k => by simp [s0, loE, hiE]⟩
  generalize 0 - z0 = mn at hI
  generalize z1 = mx at hI
  show law10_EscrowSerial_l2 N (law10_EscrowSerial_j1 N) N (seT l (l.length : Int) ((0 : Nat) : Int) [] mn mx 0 s0 s0 s0) = some true
  unfold law10_EscrowSerial_l2
  refine loop_to (some true) (min l.length 80) (fun (i : Nat) (z : (List Pending) × Int × Fn5 × Fn5 × Fn5) => seT l (l.length : Int) (i : Int) z.1 mn mx z.2.1 z.2.2.1 z.2.2.2.1 z.2.2.2.2) (fun i z => Inv i z.1 mn mx z.2.1 z.2.2.1 z.2.2.2.1 ∧ Hist i z.2.2.1 z.2.2.2.1 z.2.2.2.2) (fun r i z hi hz => ?_) (fun r z hz => ?_) N 0 ([], 0, s0, s0, s0) (Nat.zero_le _) (by omega) ⟨hI, hH⟩
  · obtain ⟨rows, v, s, e, a⟩ := z
    obtain ⟨hz, hh⟩ := hz
    simp only at hz hh
    have hil : i < l.length := by omega
    obtain ⟨zt, ht1, t, ht2, ht3, ht4⟩ := txn_of (l[i]).txn
    obtain ⟨zk, hk1, hk2, hk3⟩ := kind_of (l[i]).kind
    obtain ⟨zb, hb1, hb2, hb3⟩ := rem_by (x := (l[i]).by_)
    refine .inr ?_
    simp only [lt_dec hil, cond_true, idx_nat, get_some hil, Option.bind_some, ht1, hk1, ht4]
    rw [show ((i : Int) == 80) = decide (i = 80) from ieqN (m := 80), decide_eq_false (show ¬ i = 80 by omega)]
    have ha := serial_adds (N := N) (zk := zk) hn (show i ≤ 80 by omega) hz hh ht2 ht3 r l l[i] zb hb1 hb2 hb3
    have hb := fun (n0 : zk ≠ 0) (n1 : zk ≠ 1) (n2 : zk ≠ 2) => (show zk = 3 ∨ (zk = 4 ∨ zk = 5) by omega).elim (fun hk => serial_back (N := N) (zk := zk) hn (show i ≤ 80 by omega) hz hh ht2 ht3 r l l[i] hk) (fun hk => serial_over (N := N) (zk := zk) hn (show i ≤ 80 by omega) hz hh ht2 ht3 r l l[i] hk)
    simp only [cond_false, jn, law10_EscrowSerial_j22]
    by_cases c0 : zk = 0
    · subst c0; exact ha
    · by_cases c1 : zk = 1
      · subst c1; exact ha
      · by_cases c2 : zk = 2
        · subst c2; exact ha
        · rw [show (zk == 0) = false from beq_eq_false_iff_ne.2 c0, show (zk == 1) = false from beq_eq_false_iff_ne.2 c1, show (zk == 2) = false from beq_eq_false_iff_ne.2 c2]
          exact hb c0 c1 c2
  · by_cases hlt : l.length ≤ 80
    · rw [Nat.min_eq_left hlt]
      simp only [ge_dec (Nat.lt_irrefl _), cond_false]
      rfl
    · rw [Nat.min_eq_right (by omega)]
      simp only [lt_dec (show 80 < l.length by omega), cond_true, idx_nat, get_some (show 80 < l.length by omega), Option.bind_some, show (((80 : Nat) : Int) == 80) = true from rfl]
      rfl
end Go.Proofs.Ytfidbgcdjmhjnaa
