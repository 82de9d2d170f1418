/- Escrows: what comes of Add, Back and Over may be. -/
import Derived.Test.YtfidbgcdjmhjnaaEscH
namespace Go.Proofs.Ytfidbgcdjmhjnaa
open Go.Bur
set_option linter.unusedSimpArgs false
set_option linter.unusedVariables false
set_option maxRecDepth 100000

theorem cut_pair {α : Type} {c : α → Int} {l A B : List α} {y : Option α} (h : Cut c l A y B) {r : α → α → Prop} (hl : l.Pairwise r) {P : α} (h1 : ∀ x, c x < 0 → r x P) (h2 : ∀ x, 0 < c x → r P x) : (A ++ P :: B).Pairwise r := by
  have h3 := hl.sublist (cut_sub h)
  rw [List.pairwise_append] at h3 ⊢
  refine ⟨h3.1, List.pairwise_cons.2 ⟨fun x hx => h2 x (h.hi x hx), h3.2.1⟩, fun a ha b hb => ?_⟩
  rcases List.mem_cons.1 hb with rfl | hb
  · exact h1 a (h.lo a ha)
  · exact h3.2.2 a ha b hb
theorem cut_mem {α : Type} {c : α → Int} {l A B : List α} {y : Option α} (h : Cut c l A y B) {P x : α} (hx : x ∈ A ++ P :: B) : x = P ∨ x ∈ l := by
  rcases List.mem_append.1 hx with hx | hx
  · right; rw [h.eq]; simp [hx]
  · rcases List.mem_cons.1 hx with rfl | hx
    · exact .inl rfl
    · right; rw [h.eq]; simp [hx]
section
variable {l A B : List Pending} {y : Option Pending} {k : Key}
theorem escOk_put (h : EscOk l) (hc : Cut (cK k) l A y B) {P : Pending} (hP : rightP P = true) (hk : P.key = k) (hlen : A.length + B.length + 1 ≤ 60) : EscOk (A ++ P :: B) := by
  refine ⟨by simp; omega, fun x hx => ?_, ?_⟩
  · rcases cut_mem hc hx with rfl | hx
    · exact hP
    · exact h.each x hx
  · refine cut_pair hc h.ord (fun x hx => ?_) (fun x hx => ?_)
    · unfold ltK; rw [hk]; exact decide_eq_true hx
    · have := cmpK_neg (a := x.key) (b := k)
      unfold ltK cK at *; rw [hk]; exact decide_eq_true (by omega)
theorem escIn_put (h : EscIn l) (hc : Cut (cK k) l A y B) {P : Pending} (h1 : PendIn P) (h2 : KeyIn P.key) (h3 : P.shares.length ≤ 9) : EscIn (A ++ P :: B) := fun x hx => by
  rcases cut_mem hc hx with rfl | hx
  · exact ⟨h1, h2, h3⟩
  · exact h x hx
end
section
variable {p : Pending} {t : Int} {A' B' : List Share} {y' : Option Share}
theorem newS_ok {o : Share} {x : Int} (ht : txnB o.txn = true) (h1 : o.lo ≤ 0) (h2 : 0 ≤ o.hi) : shareOk (newS o x) = true := by
  unfold shareOk newS
  rw [Bool.and_eq_true, decide_eq_true_iff]
  refine ⟨ht, ?_, ?_, ?_, ?_⟩
  · simp only; split <;> omega
  · simp only; split <;> omega
  · simp only; split <;> omega
  · simp only; split <;> omega
theorem own_txn (hc : Cut (cT t) p.shares A' y' B') : (ownS t y').txn = t := by
  unfold ownS
  cases y' with
  | none => rfl
  | some s => exact cmpI_zero.1 (hc.mid s rfl)
theorem own_ends (hp : ∀ s ∈ p.shares, shareOk s = true) (hc : Cut (cT t) p.shares A' y' B') : (ownS t y').lo ≤ 0 ∧ 0 ≤ (ownS t y').hi := by
  unfold ownS
  cases y' with
  | none => exact ⟨Int.le_refl 0, Int.le_refl 0⟩
  | some s =>
    have := shareOk_le (hp s (by rw [hc.eq]; simp))
    exact ⟨this.1, this.2.2.2⟩
theorem addTo_ord (ho : p.shares.Pairwise (fun a b => ltT a b = true)) (hc : Cut (cT t) p.shares A' y' B') {o : Share} (h : o.txn = t) : (addTo p A' B' o).shares.Pairwise (fun a b => ltT a b = true) := by
  refine cut_pair hc ho (fun x hx => ?_) (fun x hx => ?_)
  · unfold ltT; rw [h]; exact decide_eq_true (cmpI_lt.1 hx)
  · have := cmpI_neg (a := x.txn) (b := t)
    unfold ltT; rw [h]; exact decide_eq_true (cmpI_lt.1 (show cmpI t x.txn < 0 by unfold cT at hx; omega))
theorem addTo_each (hp : ∀ s ∈ p.shares, shareOk s = true) (hc : Cut (cT t) p.shares A' y' B') {o : Share} (h : shareOk o = true) : ∀ s ∈ (addTo p A' B' o).shares, shareOk s = true := fun s hs => by
  rcases cut_mem hc hs with rfl | hs
  · exact h
  · exact hp s hs
theorem low_high {q : Pending} (h : ∀ s ∈ q.shares, shareOk s = true) : lowZ q ≤ q.value ∧ q.value ≤ highZ q ∧ lowZ q ≤ midZ q ∧ midZ q ≤ highZ q := by
  have h1 := sumLo_le h
  have h2 := sumMid_le h
  unfold lowZ highZ midZ
  omega
/-- What an Add that is let comes to may be. -/
theorem addTo_ok {d : Int} {b : Bounds} (hb : I64 b.min ∧ I64 b.max) (hk : keyB p.key = true) (hl : p.shares.length ≤ 8) (hp : ∀ s ∈ p.shares, shareOk s = true) (ho : p.shares.Pairwise (fun a b => ltT a b = true)) (hc : Cut (cT t) p.shares A' y' B')
    (h : addErr p t d b A' y' B' = 0) : PendOk (addTo p A' B' (newS (ownS t y') ((ownS t y').sum + d))) ∧ fits ((ownS t y').sum + d) = true ∧ b.min ≤ lowZ (addTo p A' B' (newS (ownS t y') ((ownS t y').sum + d))) ∧ highZ (addTo p A' B' (newS (ownS t y') ((ownS t y').sum + d))) ≤ b.max := by
  unfold addErr at h
  split at h
  · cases h
  rename_i h1
  split at h
  · cases h
  rename_i h2
  split at h
  · cases h
  rename_i h3
  split at h
  · cases h
  rename_i h4
  simp only [Bool.not_eq_true, Bool.or_eq_false_iff, Bool.not_eq_false', decide_eq_false_iff_not] at h1 h3 h4
  obtain ⟨o1, o2⟩ := own_ends hp hc
  have et := own_txn hc
  have hlen := cut_len hc
  have he := addTo_each hp hc (newS_ok (o := ownS t y') (x := (ownS t y').sum + d) (by rw [et]; exact h1.1) o1 o2)
  have hlh := low_high he
  unfold overB at h4
  simp only [Bool.or_eq_false_iff, decide_eq_false_iff_not] at h4
  obtain ⟨b1, b2⟩ := hb
  refine ⟨⟨hk, by simp [addTo]; omega, ?_, he, addTo_ord ho hc et, ?_, ?_⟩, h3, by omega, by omega⟩
  · simp only [addTo, List.length_append, List.length_cons]
    cases y' with
    | some s => simp at hlen; omega
    | none => simp at h2 hlen; omega
  · unfold I64 at *; omega
  · unfold I64 at *; omega
end
section
variable {l A B : List Pending} {y : Option Pending} {k : Key}
theorem pendOf_ok (h : EscOk l) (hc : Cut (cK k) l A y B) (a : Adding) : (∀ s ∈ (pendOf k a y).shares, shareOk s = true) ∧ (pendOf k a y).shares.Pairwise (fun a b => ltT a b = true) ∧ (pendOf k a y).shares.length ≤ 8 ∧ (pendOf k a y).key = k := by
  unfold pendOf
  cases y with
  | none => exact ⟨by simp, List.Pairwise.nil, by simp, rfl⟩
  | some p =>
    have hp := rightP_iff.1 (h.each p (by rw [hc.eq]; simp))
    exact ⟨hp.each, hp.ord, hp.len8, cmpK_zero.1 (hc.mid p rfl)⟩
theorem add_ok (h : EscOk l) (hi : EscIn l) (hki : KeyIn k) (hc : Cut (cK k) l A y B) {a : Adding} (ha : AddIn a) {A' B' : List Share} {y' : Option Share} (hc' : Cut (cT a.txn) (pendOf k a y).shares A' y' B') (h0 : addNo l k a y A' y' B' = 0) :
    EscOk (A ++ addTo' k a y A' y' B' :: B) ∧ EscIn (A ++ addTo' k a y A' y' B' :: B) := by
  obtain ⟨q1, q2, q3, q4⟩ := pendOf_ok h hc a
  obtain ⟨p1, p2, p3⟩ := pend_in hi hc ha
  unfold addNo at h0
  split at h0
  · cases h0
  rename_i hk
  split at h0
  · cases h0
  rename_i h6
  simp only [Bool.not_eq_true, Bool.not_eq_false'] at hk
  obtain ⟨g1, g2, g3, g4⟩ := addTo_ok (d := a.by_) ha.2.2 (by rw [q4]; exact hk) q3 q1 q2 hc' h0
  have hlen := cut_len hc
  have hl := h.len
  refine ⟨escOk_put h hc (rightP_iff.2 g1) q4 ?_, escIn_put hi hc (addTo_in p1 hc' (newS_in (own_in p1 hc') (fits_i64 g2))) ?_ ?_⟩
  · cases y with
    | some p => simp at hlen; omega
    | none => simp at h6 hlen; omega
  · show KeyIn (pendOf k a y).key
    rw [q4]; exact hki
  · have := g1.len8; exact Nat.le_trans this (by decide)
theorem backTo_ok {p : Pending} (hp : PendOk p) {s : Share} {d : Int} {t : Int} {A' B' : List Share} (hc : Cut (cT t) p.shares A' (some s) B') (h0 : backErr s d = 0) : PendOk (backTo p A' B' s d) ∧ fits (s.sum - d) = true := by
  unfold backErr at h0
  split at h0
  · cases h0
  rename_i h1
  simp only [Bool.not_eq_true, Bool.or_eq_false_iff, Bool.not_eq_false', decide_eq_false_iff_not] at h1
  obtain ⟨⟨f1, f2⟩, f3⟩ := h1
  have hs := hp.each s (by rw [hc.eq]; simp)
  have hsl := shareOk_le hs
  have hst : s.txn = t := cmpI_zero.1 (hc.mid s rfl)
  have hlen := cut_len hc
  have e : backTo p A' B' s d = addTo p A' B' ⟨s.txn, s.sum - d, s.hi, s.lo⟩ := rfl
  have hl8 := hp.len8
  have eL : lowZ (backTo p A' B' s d) = lowZ p := by
    rw [(sums_cut hc).1]
    unfold backTo lowZ; simp [loO]
  have eH : highZ (backTo p A' B' s d) = highZ p := by
    rw [(sums_cut hc).2.1]
    unfold backTo highZ; simp [hiO]
  refine ⟨⟨hp.key, by simp [backTo]; omega, by simp [backTo] at hlen ⊢; omega, ?_, ?_, eL ▸ hp.low, eH ▸ hp.high⟩, f1⟩
  · rw [e]
    refine addTo_each hp.each hc ?_
    unfold shareOk at hs ⊢
    rw [Bool.and_eq_true, decide_eq_true_iff] at hs ⊢
    exact ⟨hs.1, by simp only; omega⟩
  · rw [e]; exact addTo_ord hp.ord hc hst
theorem back_ok (h : EscOk l) (hi : EscIn l) (hc : Cut (cK k) l A y B) {t d : Int} {A' B' : List Share} {y' : Option Share} (hc' : ∀ p, y = some p → Cut (cT t) p.shares A' y' B') (h0 : backNo y y' d = 0) :
    EscOk (backP A y B A' y' B' d) ∧ EscIn (backP A y B A' y' B' d) := by
  cases y with
  | none => cases h0
  | some p =>
    cases y' with
    | none => cases h0
    | some s =>
      have hp : p ∈ l := by rw [hc.eq]; simp
      obtain ⟨p1, p2, p3⟩ := hi p hp
      have hcs := hc' p rfl
      have hpk : p.key = k := cmpK_zero.1 (hc.mid p rfl)
      obtain ⟨g1, g2⟩ := backTo_ok (rightP_iff.1 (h.each p hp)) hcs h0
      have hlen := cut_len hc
      have hl := h.len
      have hs := p1.2 s (by rw [hcs.eq]; simp)
      unfold backP
      simp only
      rw [if_pos (show backErr s d = 0 from h0)]
      refine ⟨escOk_put h hc (rightP_iff.2 g1) hpk (by simp at hlen; omega), escIn_put hi hc ?_ p2 (Nat.le_trans g1.len8 (by decide))⟩
      exact addTo_in (o := ⟨s.txn, s.sum - d, s.hi, s.lo⟩) p1 hcs ⟨hs.1, fits_i64 g2, hs.2.2⟩
theorem overP_ok {p : Pending} (hp : PendOk p) (t : Int) (c : Bool) (h1 : 1 ≤ (overP t c p).shares.length) : PendOk (overP t c p) := by
  obtain ⟨A', y', B', hc⟩ := cutT t (rightP_chain (rightP_iff.2 hp))
  have hsub : (overP t c p).shares.Sublist p.shares := List.filter_sublist
  have hev : ∀ s ∈ (overP t c p).shares, shareOk s = true := fun s hs => hp.each s (hsub.subset hs)
  have hlh := low_high hev
  have hA := sumLo_le (l := A') fun x hx => hp.each x (by rw [hc.eq]; simp [hx])
  have hB := sumLo_le (l := B') fun x hx => hp.each x (by rw [hc.eq]; simp [hx])
  obtain ⟨s1, s2, _⟩ := sums_cut hc
  have e1 : lowZ (overP t c p) = (overP t c p).value + ((A'.map (·.lo)).sum + (B'.map (·.lo)).sum) := by
    rw [overP_cut hc]; unfold lowZ; simp
  have e2 : highZ (overP t c p) = (overP t c p).value + ((A'.map (·.hi)).sum + (B'.map (·.hi)).sum) := by
    rw [overP_cut hc]; unfold highZ; simp
  have hv : (overP t c p).value = p.value + (if c then sumO y' else 0) := by rw [overP_cut hc]
  have hs : loO y' ≤ 0 ∧ loO y' ≤ sumO y' ∧ sumO y' ≤ hiO y' ∧ 0 ≤ hiO y' := by
    cases y' with
    | none => simp [loO, sumO, hiO]
    | some s => exact shareOk_le (hp.each s (by rw [hc.eq]; simp))
  have l1 := hp.low
  have l2 := hp.high
  have hc2 : (if c then sumO y' else 0) = 0 ∨ (if c then sumO y' else 0) = sumO y' := by cases c <;> simp
  refine ⟨hp.key, h1, Nat.le_trans hsub.length_le hp.len8, hev, hp.ord.sublist hsub, ?_, ?_⟩
  · unfold I64 at *; omega
  · unfold I64 at *; omega
theorem overP_in {p : Pending} (hp : PendOk p) (hi : PendIn p) (t : Int) (c : Bool) : PendIn (overP t c p) := by
  obtain ⟨A', y', B', hc⟩ := cutT t (rightP_chain (rightP_iff.2 hp))
  refine ⟨?_, fun s hs => hi.2 s ((List.filter_sublist (l := p.shares)).subset hs)⟩
  have hv : (overP t c p).value = p.value + (if c then sumO y' else 0) := by rw [overP_cut hc]
  rw [hv]
  cases y' with
  | none => cases c <;> simpa [sumO] using hi.1
  | some s =>
    cases c with
    | false => simpa [sumO] using hi.1
    | true => exact over_val hp hc
theorem overL_mem {t : Int} {c : Bool} {q : Pending} (h : q ∈ overL t c l) : ∃ p ∈ l, q = overP t c p ∧ 1 ≤ q.shares.length := by
  unfold overL at h
  obtain ⟨h1, h2⟩ := List.mem_filter.1 h
  obtain ⟨p, hp, rfl⟩ := List.mem_map.1 h1
  unfold noShares at h2
  simp only [Bool.not_eq_true', decide_eq_false_iff_not] at h2
  exact ⟨p, hp, rfl, by omega⟩
theorem over_ok (h : EscOk l) (hi : EscIn l) (t : Int) (c : Bool) : EscOk (overL t c l) ∧ EscIn (overL t c l) := by
  refine ⟨⟨?_, fun q hq => ?_, ?_⟩, fun q hq => ?_⟩
  · have := List.length_filter_le (fun p => !noShares p) (l.map (overP t c))
    have := h.len
    unfold overL
    simp at *; omega
  · obtain ⟨p, hp, rfl, h1⟩ := overL_mem hq
    exact rightP_iff.2 (overP_ok (rightP_iff.1 (h.each p hp)) t c h1)
  · unfold overL
    exact List.Pairwise.filter _ (List.pairwise_map.2 (h.ord.imp fun {a b} hab => hab))
  · obtain ⟨p, hp, rfl, h1⟩ := overL_mem hq
    obtain ⟨p1, p2, p3⟩ := hi p hp
    exact ⟨overP_in (rightP_iff.1 (h.each p hp)) p1 t c, p2, Nat.le_trans (List.filter_sublist (l := p.shares)).length_le p3⟩
end
end Go.Proofs.Ytfidbgcdjmhjnaa
