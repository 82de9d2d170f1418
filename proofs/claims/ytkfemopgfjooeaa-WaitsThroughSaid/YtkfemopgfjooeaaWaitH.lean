/- Layer 9 (waits): waits.Add; WaitsChanges, WaitsThrough. -/
import Derived.Test.YtkfemopgfjooeaaWaitG
namespace Go.Proofs.Ytkfemopgfjooeaa
open Go.Bur
set_option linter.unusedSimpArgs false
set_option linter.unusedVariables false
set_option maxRecDepth 100000

theorem concatE (n : Nat) (hn : 1003 ≤ n) (a b : List Edge) (ha : a.length ≤ 1000) (hb : b.length ≤ 1000) : slices_Concat_Edge n [a, b] = some (a ++ b) := by
  unfold slices_Concat_Edge
  show slices_Concat_Edge_l1 n n ([a, b], 0, [a, b], (([a, b] : List (List Edge)).length : Int), ((0 : Nat) : Int), ()) = _
  unfold slices_Concat_Edge_l1
  have hle : ∀ x ∈ ([a, b] : List (List Edge)), x.length ≤ 1000 := by
    intro x hx
    simp only [List.mem_cons, List.not_mem_nil, or_false] at hx
    rcases hx with rfl | rfl <;> assumption
  rw [run_loopI ([a, b] : List (List Edge)) (fun i (s : Int) => ([a, b], s, [a, b], (([a, b] : List (List Edge)).length : Int), (i : Int), ())) (fun _ x s => .inr (s + (x.length : Int))) (fun s => some (a ++ b)) (fun i s => 0 ≤ s ∧ s ≤ 1000 * (i : Int)) ?_ ?_ ?_ n 0 0 (Nat.zero_le _) (by simp; omega) ⟨by omega, by omega⟩]
  · rw [List.drop_zero, runL_fold (g := fun (x : List Edge) (s : Int) => s + (x.length : Int))]
  · intro i s x s' hx hI h
    cases h
    have := hle x (List.mem_of_getElem? hx)
    constructor
    · have := hI.1; omega
    · have := hI.2; push_cast; omega
  · intro r i s x hx hi hI
    have h1 := hle x (List.mem_of_getElem? hx)
    have hi' : i < 2 := hi
    have hw : IntKind.wrap .i64 (s + (x.length : Int)) = s + (x.length : Int) := wrap_in (by have := hI.1; have := hI.2; omega)
    simp only [lt_dec hi, cond_true, idx_nat, hx, Option.bind_some, hw, jn, slices_Concat_Edge_j2, wrap_succ (show i < 4611686018427387904 by omega)]
    rw [decide_eq_false (by have := hI.1; omega)]
    rfl
  · intro r s hI
    have h2 : s ≤ 2000 := by have := hI.2; simp only [List.length_cons, List.length_nil] at this; omega
    have hg : slices_Grow_Edge n s = some [] := by
      unfold slices_Grow_Edge growL
      rw [if_pos hI.1, show room s.toNat 16 = true from Nat.ble_eq_true_of_le (by omega)]
    simp only [ge_dec (Nat.lt_irrefl _), cond_false, hg, Option.bind_some]
    show slices_Concat_Edge_l3 n n ([a, b], (([a, b] : List (List Edge)).length : Int), ((0 : Nat) : Int), [], ()) = _
    unfold slices_Concat_Edge_l3
    rw [run_loopI ([a, b] : List (List Edge)) (fun i (z : List Edge) => ([a, b], (([a, b] : List (List Edge)).length : Int), (i : Int), z, ())) (fun _ x z => .inr (z ++ x)) (fun z => some z) (fun i z => z.length ≤ 1000 * i) ?_ ?_ ?_ n 0 [] (Nat.zero_le _) (by simp; omega) (by simp)]
    · rw [List.drop_zero, runL_fold (g := fun (x : List Edge) (z : List Edge) => z ++ x)]
      simp
    · intro i z x z' hx hI h
      cases h
      have := hle x (List.mem_of_getElem? hx)
      simp only [List.length_append]; omega
    · intro r i z x hx hi hI
      have h1 := hle x (List.mem_of_getElem? hx)
      have hi' : i < 2 := hi
      simp only [lt_dec hi, cond_true, idx_nat, hx, Option.bind_some, app_lt (show z.length + x.length ≤ 1000000 by omega) (show 16 ≤ 1000 by omega), wrap_succ (show i < 4611686018427387904 by omega)]
    · intro r z hI
      simp only [ge_dec (Nat.lt_irrefl _), cond_false]

/-! ### Sorted -/
def leE (a b : Edge) : Prop := ltE b a = false
theorem cmpD_E {n : Nat} (hn : 1003 ≤ n) {a b : Edge} : cmpD (fun x y => waits_compare n x y) a b = cE a b := by
  show (waits_compare n a b).getD 0 = _
  rw [compareE n hn]; rfl
theorem ltE_self (a : Edge) : ltE a a = false := by
  cases h : ltE a a with
  | false => rfl
  | true => exact absurd rfl (ltE_irr h)
theorem leE_trans {a b c : Edge} (h : leE a b) (k : leE b c) : leE a c := by
  unfold leE at *
  by_cases e : ltE c a = true
  · exfalso
    rw [ltE_iff] at e
    have h1 : ¬ (b.from_ < a.from_ ∨ b.from_ = a.from_ ∧ b.to < a.to) := fun q => by rw [ltE_iff.2 q] at h; cases h
    have h2 : ¬ (c.from_ < b.from_ ∨ c.from_ = b.from_ ∧ c.to < b.to) := fun q => by rw [ltE_iff.2 q] at k; cases k
    omega
  · simpa using e
theorem leE_total (a b : Edge) : leE a b ∨ leE b a := by
  unfold leE
  cases h : ltE b a with
  | false => exact .inl rfl
  | true =>
    right
    by_cases e : ltE a b = true
    · exact absurd rfl (ltE_irr (ltE_trans _ _ _ e h))
    · simpa using e
theorem leE_ne {a b : Edge} (h : leE a b) (hne : a ≠ b) : ltE a b = true := ltE_or h hne
noncomputable def msE (l : List Edge) : List Edge := l.mergeSort fun a b => !ltE b a
theorem msE_perm (l : List Edge) : (msE l).Perm l := List.mergeSort_perm l _
theorem msE_le (l : List Edge) : (msE l).Pairwise leE := by
  have := List.pairwise_mergeSort (le := fun a b : Edge => !ltE b a) (fun a b c h k => by
    have := leE_trans (a := a) (b := b) (c := c) (by simpa [leE] using h) (by simpa [leE] using k)
    simpa [leE] using this) (fun a b => by
    rcases leE_total a b with h | h
    · simp [show ltE b a = false from h]
    · simp [show ltE a b = false from h]) l
  exact this.imp fun h => by simpa [leE] using h
theorem sortE {n : Nat} (hn : 1003 ≤ n) (l : List Edge) (hl : l.length ≤ 4611686018427387903) : slices_SortFunc_Edge_f51 n l = some (msE l) := by
  unfold slices_SortFunc_Edge_f51
  rw [Nat.ble_eq_true_of_le hl]
  refine sortF_eq _ ⟨fun x hx y hy => ⟨_, compareE n hn x y⟩, fun x hx => ?_, fun x hx y hy z hz h1 h2 => ?_, fun x hx y hy h1 h2 => ?_⟩ ⟨(msE_perm l), (msE_le l).imp fun {x y} h => ?_⟩
  · rw [cmpD_E hn, cE_lt, ltE_self]; simp
  · rw [cmpD_E hn, cE_lt] at h1 h2 ⊢
    exact ltE_trans _ _ _ h1 h2
  · rw [cmpD_E hn, cE_lt] at h1 h2
    exact Classical.byContradiction fun hne => h1 (leE_ne (show leE x y by unfold leE; simpa using h2) hne)
  · rw [cmpD_E hn, cE_lt, show ltE y x = false from h]; simp

/-! ### Each once -/
structure CpI (L W : List Edge) (k : Nat) : Prop where
  len : W.length ≤ k
  up : W.Pairwise fun a b => ltE a b = true
  mem : ∀ x, x ∈ W ↔ x ∈ L.take k
theorem le_at {L : List Edge} (hs : L.Pairwise leE) {i j : Nat} (hi : i < L.length) (hj : j < L.length) (h : i ≤ j) : leE L[i] L[j] := by
  rcases Nat.lt_or_eq_of_le h with h | rfl
  · exact List.pairwise_iff_getElem.1 hs i j hi hj h
  · exact ltE_self _
theorem CpI.same {L W : List Edge} {k : Nat} (h : CpI L W k) (h0 : 0 < k) (hk : k < L.length) (e : L[k] = L[k - 1]'(by omega)) : CpI L W (k + 1) := by
  refine ⟨by have := h.len; omega, h.up, fun x => ?_⟩
  rw [h.mem, List.take_succ_eq_append_getElem hk, List.mem_append, List.mem_singleton]
  constructor
  · exact .inl
  · rintro (q | rfl)
    · exact q
    · rw [e]; exact List.mem_take_iff_getElem.2 ⟨k - 1, by omega, rfl⟩
theorem CpI.next {L W : List Edge} {k : Nat} (hs : L.Pairwise leE) (h : CpI L W k) (hk : k < L.length) (e : k = 0 ∨ ∃ h0 : 0 < k, L[k] ≠ L[k - 1]'(by omega)) : CpI L (W ++ [L[k]]) (k + 1) := by
  refine ⟨by have := h.len; simp; omega, List.pairwise_append.2 ⟨h.up, List.pairwise_singleton _ _, fun a ha b hb => ?_⟩, fun x => ?_⟩
  · rw [List.mem_singleton] at hb
    subst hb
    obtain ⟨j, hj, rfl⟩ := List.mem_take_iff_getElem.1 ((h.mem a).1 ha)
    rcases e with rfl | ⟨h0, hne⟩
    · omega
    · have hj' : j < k := by omega
      refine leE_ne (le_at hs (by omega) hk (by omega)) fun e => hne ?_
      have h1 := le_at hs (i := j) (j := k - 1) (by omega) (by omega) (by omega)
      have h2 := le_at hs (i := k - 1) (j := k) (by omega) (by omega) (by omega)
      rw [e] at h1
      exact Classical.byContradiction fun hc => by
        have := leE_ne h2 fun q => hc q.symm
        rw [show ltE (L[k - 1]'(by omega)) L[k] = false from h1] at this; cases this
  · rw [List.take_succ_eq_append_getElem hk, List.mem_append, List.mem_append, h.mem]
theorem put_drop {L W : List Edge} {x : Edge} (h : W.length < L.length) : put (W ++ L.drop W.length) (W.length : Int) x = some ((W ++ [x]) ++ L.drop (W ++ [x]).length) := by
  rw [List.drop_eq_getElem_cons h, put_app]
  simp
theorem idx_drop {L W : List Edge} {j : Nat} (h : W.length ≤ j) (hj : j < L.length) : idx (W ++ L.drop W.length) (j : Int) = some L[j] := by
  rw [idx_nat, List.getElem?_append_right h, List.getElem?_drop, show W.length + (j - W.length) = j by omega, get_some hj]
theorem cp2 (n : Nat) {L : List Edge} (hs : L.Pairwise leE) (hL : L.length ≤ 1000) (i : Nat) : ∀ (d k2 : Nat) (W : List Edge) (m : Nat), i + k2 + d = L.length → 1 ≤ k2 → W.length < i + k2 → CpI L W (i + k2) → d < m →
    ∃ r, slices_Compact_Edge_l2 n m ((W.length : Int), (i : Int), (k2 : Int), W ++ L.drop W.length, ()) = some r ∧ CpI L r L.length := by
  intro d
  induction d with
  | zero =>
    intro k2 W m hd h1 hW hI hm
    obtain ⟨m, rfl⟩ : ∃ m', m = m' + 1 := ⟨m - 1, by omega⟩
    have hlen : (W ++ L.drop W.length).length = L.length := by simp; omega
    refine ⟨W, ?_, by rwa [show i + k2 = L.length by omega] at hI⟩
    show (loopF _ (m + 1) _ : Option (List Edge)) = _
    simp only [loopF, hlen]
    rw [decide_eq_false (show ¬ ((k2 : Int) < ((L.length - ((i : Int)).toNat : Nat) : Int)) by rw [show ((i : Int)).toNat = i from rfl]; omega)]
    simp only [cond_false]
    have e1 : sub (W ++ L.drop W.length) (W.length : Int) (L.length : Int) = some (((W ++ L.drop W.length).drop W.length).take (L.length - W.length)) := sub_ok (by omega) (by omega)
    rw [e1, Option.bind_some, show ((W.length : Int)).toNat = W.length from rfl, List.take_left]
    have e2 : sub (W ++ List.replicate (L.length - W.length) (Edge.mk 0 0)) ((0 : Nat) : Int) (W.length : Int) = some (((W ++ List.replicate (L.length - W.length) (Edge.mk 0 0)).drop 0).take (W.length - 0)) := sub_ok (Nat.zero_le _) (by simp)
    have e3 : sub (W ++ List.replicate (L.length - W.length) (Edge.mk 0 0)) 0 (W.length : Int) = some W := by
      refine Eq.trans e2 ?_
      simp
    rw [e3]; rfl
  | succ d ih =>
    intro k2 W m hd h1 hW hI hm
    obtain ⟨m, rfl⟩ : ∃ m', m = m' + 1 := ⟨m - 1, by omega⟩
    have hlen : (W ++ L.drop W.length).length = L.length := by simp; omega
    have v1 : vwI (i : Int) (k2 : Int) = some ((i + k2 : Nat) : Int) := by unfold vwI; rw [decide_eq_true (by omega)]; rfl
    have v2 : vwI (i : Int) (IntKind.wrap .i64 ((k2 : Int) - 1)) = some ((i + k2 - 1 : Nat) : Int) := by
      rw [wrap_in (by omega)]
      unfold vwI; rw [decide_eq_true (by omega)]
      show some _ = _
      congr 1; omega
    have g1 := idx_drop (L := L) (W := W) (j := i + k2) (by omega) (by omega)
    have g2 := idx_drop (L := L) (W := W) (j := i + k2 - 1) (by omega) (by omega)
    have step : ∀ W', W'.length < i + (k2 + 1) → CpI L W' (i + (k2 + 1)) → ∃ r, slices_Compact_Edge_l2 n m ((W'.length : Int), (i : Int), ((k2 + 1 : Nat) : Int), W' ++ L.drop W'.length, ()) = some r ∧ CpI L r L.length := fun W' h3 h4 => ih (k2 + 1) W' m (by omega) (by omega) h3 h4 (by omega)
    show ∃ r, (loopF _ (m + 1) _ : Option (List Edge)) = some r ∧ _
    unfold slices_Compact_Edge_l2 at step
    simp only [loopF]
    generalize loopF _ m = rr at step ⊢
    simp only [hlen]
    rw [decide_eq_true (show ((k2 : Int) < ((L.length - ((i : Int)).toNat : Nat) : Int)) by rw [show ((i : Int)).toNat = i from rfl]; omega)]
    simp only [cond_true, v1, v2, Option.bind_some, g1, g2, jn, slices_Compact_Edge_j3, edge_eqb, wrap_succ (show k2 < 4611686018427387904 by omega)]
    by_cases he : L[i + k2]'(by omega) = L[i + k2 - 1]'(by omega)
    · rw [decide_eq_true he]
      simp only [Bool.not_true, cond_false]
      exact step W (by omega) (hI.same (by omega) (by omega) he)
    · rw [decide_eq_false he]
      have gw : idx (W ++ L.drop W.length) (W.length : Int) = some (L[W.length]'(by omega)) := idx_drop (Nat.le_refl _) (by omega)
      simp only [Bool.not_false, cond_true, gw, Option.bind_some, put_drop (L := L) (W := W) (show W.length < L.length by omega)]
      obtain ⟨r, h5, h6⟩ := step (W ++ [L[i + k2]'(by omega)]) (by simp; omega) (hI.next hs (by omega) (.inr ⟨by omega, he⟩))
      refine ⟨r, ?_, h6⟩
      rw [← h5]
      have : IntKind.wrap .i64 ((W.length : Int) + 1) = (((W ++ [L[i + k2]'(by omega)]).length : Nat) : Int) := by rw [wrap_succ (by omega)]; simp
      rw [this]
theorem cp1 (n : Nat) {L : List Edge} (hs : L.Pairwise leE) (hL : L.length ≤ 1000) (hn : 1003 ≤ n) : ∀ (d k m : Nat), k + d = L.length → 1 ≤ k → CpI L (L.take k) k → d < m → ∃ r, slices_Compact_Edge_l1 n m ((k : Int), L, ()) = some r ∧ CpI L r L.length := by
  intro d
  induction d with
  | zero =>
    intro k m hd h1 hI hm
    obtain ⟨m, rfl⟩ : ∃ m', m = m' + 1 := ⟨m - 1, by omega⟩
    refine ⟨L, ?_, ?_⟩
    · show (loopF _ (m + 1) _ : Option (List Edge)) = _
      simp only [loopF]
      rw [decide_eq_false (by omega)]; rfl
    · rw [show k = L.length by omega, List.take_length] at hI; exact hI
  | succ d ih =>
    intro k m hd h1 hI hm
    obtain ⟨m, rfl⟩ : ∃ m', m = m' + 1 := ⟨m - 1, by omega⟩
    have hw : IntKind.wrap .i64 ((k : Int) - 1) = ((k - 1 : Nat) : Int) := by rw [wrap_in (by omega)]; omega
    have step : CpI L (L.take (k + 1)) (k + 1) → ∃ r, slices_Compact_Edge_l1 n m (((k + 1 : Nat) : Int), L, ()) = some r ∧ CpI L r L.length := fun h => ih (k + 1) m (by omega) (by omega) h (by omega)
    show ∃ r, (loopF _ (m + 1) _ : Option (List Edge)) = some r ∧ _
    unfold slices_Compact_Edge_l1 at step
    simp only [loopF]
    generalize loopF _ m = rr at step ⊢
    rw [decide_eq_true (by omega)]
    simp only [cond_true, hw, idx_nat, get_some (show k < L.length by omega), get_some (show k - 1 < L.length by omega), Option.bind_some, edge_eqb]
    by_cases he : L[k]'(by omega) = L[k - 1]'(by omega)
    · rw [decide_eq_true he]
      have e1 : sub L (k : Int) (L.length : Int) = some ((L.drop k).take (L.length - k)) := sub_ok (by omega) (by omega)
      simp only [cond_true, e1, Option.bind_some]
      have hlt : (L.take k).length = k := by simp; omega
      have hI' : CpI L (L.take k) (k + 1) := hI.same (by omega) (by omega) he
      obtain ⟨r, h5, h6⟩ := cp2 n hs hL k d 1 (L.take k) n (by omega) (by omega) (by omega) hI' (by omega)
      refine ⟨r, ?_, h6⟩
      rw [hlt, List.take_append_drop] at h5
      exact h5
    · rw [decide_eq_false he]
      simp only [cond_false, wrap_succ (show k < 4611686018427387904 by omega)]
      refine step ?_
      have := hI.next hs (by omega) (.inr ⟨by omega, he⟩)
      rwa [← List.take_succ_eq_append_getElem] at this
theorem compactE (n : Nat) (hn : 1003 ≤ n) {L : List Edge} (hs : L.Pairwise leE) (hL : L.length ≤ 1000) : ∃ r, slices_Compact_Edge n L = some r ∧ CpI L r L.length := by
  unfold slices_Compact_Edge
  by_cases h2 : L.length < 2
  · rw [decide_eq_true (by omega)]
    refine ⟨L, rfl, Nat.le_refl _, ?_, fun x => by rw [List.take_length]⟩
    match L, h2 with
    | [], _ => exact .nil
    | [x], _ => exact List.pairwise_singleton _ _
  · rw [decide_eq_false (by omega)]
    simp only [cond_false]
    refine cp1 n hs hL hn (L.length - 1) 1 n (by omega) (by omega) ?_ (by omega)
    have h0 : CpI L [] 0 := ⟨Nat.le_refl _, .nil, by simp⟩
    have := h0.next hs (show 0 < L.length by omega) (.inl rfl)
    rwa [show L.take 1 = [] ++ [L[0]'(by omega)] from by rw [List.take_succ_eq_append_getElem (by omega)]; rfl]
theorem waddE (n : Nat) (hn : 60003 ≤ n) (l more : List Edge) (hl : l.length ≤ 200) (hm : more.length ≤ 200) (hk : KeysIn l) (hk2 : KeysIn more) : waits_Add n l more = some (if rightP l then (if rightP (more.foldl insE l) then (more.foldl insE l, 0) else ([], 2)) else ([], 190)) := by
  unfold waits_Add
  rw [rightE n (by omega) l (by omega) hk, Option.bind_some]
  cases hr : rightP l with
  | false => rfl
  | true =>
    have hg := right_good hl hk hr
    have hlen : (l ++ more).length ≤ 400 := by simp; omega
    have hp := msE_perm (l ++ more)
    obtain ⟨r, h1, h2⟩ := compactE n (by omega) (msE_le (l ++ more)) (by rw [hp.length_eq]; omega)
    have hmem : ∀ x, x ∈ r ↔ x ∈ more.foldl insE l := fun x => by
      rw [h2.mem, List.take_length, hp.mem_iff, mem_adds, List.mem_append]
    have he : r = more.foldl insE l := srtE_ext h2.up (up_adds hg.srt) hmem
    subst he
    have hka : KeysIn (more.foldl insE l) := fun e he => by
      rcases mem_adds.1 he with h | h
      · exact hk e h
      · exact hk2 e h
    have hal := adds_len (more := more) (l := l)
    simp only [Bool.not_true, cond_false, concatE n (by omega) l more (by omega) (by omega), Option.bind_some, sortE (show 1003 ≤ n by omega) (l ++ more) (by omega), h1, rightG n hn _ (show (more.foldl insE l).length ≤ 20000 by omega) hka, if_true]
    cases rightP (more.foldl insE l) <;> rfl

/-! ### The laws -/
/-! ### A way that is through a place, or keeps off it -/
theorem wy_off {q : Int → Int → Prop} {t : Int} {a b : Int} (h : Wy q a b) : a ≠ t → b ≠ t → Wy (fun x y => q x y ∧ x ≠ t ∧ y ≠ t) a b ∨ (Wy q a t ∧ Wy q t b) := by
  induction h with
  | one h => exact fun ha hb => .inl (.one ⟨h, ha, hb⟩)
  | @step a b c h k ih =>
    intro ha hb
    by_cases hc : c = t
    · subst hc; exact .inr ⟨.one h, k⟩
    · rcases ih hc hb with h1 | ⟨h1, h2⟩
      · exact .inl (.step ⟨h, ha, hc⟩ h1)
      · exact .inr ⟨.step h h1, h2⟩
/-- All edges but those that have an end at t are in l, and l has no circles. -/
theorem circ_off {l m : List Edge} {t : Int} (hl : ¬ Circ l) (hm : ∀ x y, eR m x y → x ≠ t → y ≠ t → eR l x y) : Circ m ↔ Wy (eR m) t t := by
  constructor
  · rintro ⟨x, h⟩
    by_cases hx : x = t
    · rw [hx] at h; exact h
    · rcases wy_off (t := t) h hx hx with h1 | ⟨h1, h2⟩
      · exact absurd ⟨x, h1.mono fun a b q => hm a b q.1 q.2.1 q.2.2⟩ hl
      · exact h2.trans h1
  · exact fun h => ⟨t, h⟩
theorem brk_sub {t : Int} {l r : List Edge} {vs : List Int} (h : Brk t l vs r) : (∀ x y, eR r x y → eR l x y) ∧ vic r t = 0 ∧ (vs = [] ↔ vic l t = 0) := by
  induction h with
  | nil h => exact ⟨fun _ _ h => h, h, by simp [h]⟩
  | cons h _ ih => exact ⟨fun x y q => (wo_rel.1 (ih.1 x y q)).1, ih.2.1, by simp [h]⟩
open Classical in
theorem through_end (n : Nat) (hn : 60003 ≤ n) (l more : List Edge) (t : Int) (hl : l.length ≤ 80) (hm : more.length ≤ 200) (hk : KeysIn l) (hk2 : KeysIn more) (ht : keyIn .i64 t = true) (hr : rightP l = true) (hc : ¬ Circ l) (ht2 : ∀ e ∈ more, e.from_ = t ∨ e.to = t) :
    ((waits_Add n l more).bind fun y27 =>
      cond (y27.2 != 0)
        (some ((y27.1.length : Int) == 0))
        ((waits_Without n y27.1 t).bind fun y28 =>
        jn (fun (b29 : Bool) =>
            cond b29
              (some false)
              ((waits_Break n y27.1 t).bind fun y31 =>
              jn (fun (b32 : Bool) =>
                  jn (fun (b34 : Bool) =>
                      some b34) fun k35 =>
                  cond b32
                    ((waits_Circles n y27.1).bind fun y36 =>
                    k35 ((decide ((y31.2.1.length : Int) > 0)) == y36))
                    (k35 false)) fun k33 =>
              cond (y31.1 == 0)
                ((waits_Circles n y31.2.2).bind fun y37 =>
                k33 (!y37))
                (k33 false))) fun k30 =>
        cond (y28.1 != 0)
          (k30 true)
          ((waits_Circles n y28.2).bind fun y38 =>
          k30 y38))) = some true := by
  rw [waddE n hn l more (by omega) hm hk hk2, hr, Option.bind_some, if_pos rfl]
  have hg0 := right_good (by omega) hk hr
  cases hr2 : rightP (more.foldl insE l) with
  | false => rfl
  | true =>
    generalize ha : more.foldl insE l = a at *
    have hmem : ∀ x, x ∈ a ↔ x ∈ l ∨ x ∈ more := fun x => by rw [← ha]; exact mem_adds
    have hka : KeysIn a := fun e he => by
      rcases (hmem e).1 he with h | h
      · exact hk e h
      · exact hk2 e h
    have hal := right_short hr2
    have hga := right_good (by omega) hka hr2
    have hoff : ∀ x y, eR a x y → x ≠ t → y ≠ t → eR l x y := fun x y h hx hy => by
      rcases (hmem _).1 h with h | h
      · exact h
      · rcases ht2 _ h with e | e
        · exact absurd e hx
        · exact absurd e hy
    have hcw : ¬ Circ (wo a t) := by
      rintro ⟨x, h⟩
      exact hc ⟨x, h.mono fun p q h => by
        obtain ⟨h1, h2, h3⟩ := wo_rel.1 h
        exact hoff p q h1 h2 h3⟩
    have hgw : GoodE (wo a t) (names a) := hga.filter _
    simp only [if_true, bne_self_eq_false, cond_false, woE n (by omega) a (by omega) hka, hr2, Option.bind_some, circlesE n (by omega) (wo a t) hgw.len hgw.keys, good_right hgw, decide_eq_false hcw, Bool.and_false, jn]
    rcases breakE n (by omega) a (by omega) hka ht with ⟨h, _⟩ | ⟨_, vs, r, b1, b2, b3, hb, _⟩
    · rw [hr2] at h; cases h
    · obtain ⟨s1, s2, s3⟩ := brk_sub b1
      have hcr : ¬ Circ r := fun h => by
        have := (circ_off hc fun x y q hx hy => hoff x y (s1 x y q) hx hy).1 h
        have hm : t ∈ bnd r t := mem_bnd.2 ⟨this, this⟩
        rw [(vic_zero b3).1 s2] at hm; cases hm
      have hca : decide (0 < vs.length) = decide (Circ a) := by
        apply decide_eq_decide.2
        rw [circ_off hc hoff]
        constructor
        · intro h
          have : vic a t ≠ 0 := fun e => by rw [s3.2 e] at h; simp at h
          obtain ⟨q1, q2⟩ := mem_bnd.1 (vic_mem hga this)
          exact q1.trans q2
        · intro h
          refine Nat.pos_of_ne_zero fun e => ?_
          have hm : t ∈ bnd a t := mem_bnd.2 ⟨h, h⟩
          rw [(vic_zero hga).1 (s3.1 (List.eq_nil_of_length_eq_zero e))] at hm; cases hm
      have hdv : decide ((vs.length : Int) > 0) = decide (Circ a) := by rw [← hca]; exact decide_eq_decide.2 (by omega)
      simp only [hb, Option.bind_some, beq_self_eq_true, cond_true, circlesE n (by omega) r b3.len b3.keys, good_right b3, decide_eq_false hcr, Bool.and_false, Bool.not_false, circlesE n (by omega) a (by omega) hka, hr2, Bool.true_and, hdv]
open Classical in
theorem plainWaitsThrough (l : List Edge) (t : Int) (ends : Arr2_int) (h1 : okT tab 9 (.sl (.st 0)) l) (h2 : okT tab 9 (.int .i64) t) (h3 : okT tab 9 (.st 1) ends) : ∃ n, law09_WaitsThrough n l t ends = some true := by
  obtain ⟨n, hn⟩ : ∃ n, 60003 ≤ n := ⟨60003, Nat.le_refl _⟩
  refine ⟨n, ?_⟩
  have hk := keys_of h1
  have ht := i64_key h2
  have hto : ∀ x ∈ ends.a0, keyIn .i64 x = true := fun x hx => keyIn_i64 (h3.1.1 x hx)
  have hfrom : ∀ x ∈ ends.a1, keyIn .i64 x = true := fun x hx => keyIn_i64 (h3.2.1.1 x hx)
  unfold law09_WaitsThrough
  simp only [wakesE n (by omega), Option.bind_some, Bool.not_true, cond_false, jn]
  by_cases hl : (l.length : Int) > 80
  · rw [decide_eq_true hl]; rfl
  rw [decide_eq_false hl]
  by_cases hm : (ends.a0.length : Int) > 20
  · rw [decide_eq_true hm]; rfl
  rw [decide_eq_false hm]
  by_cases hm2 : (ends.a1.length : Int) > 20
  · rw [decide_eq_true hm2]; rfl
  rw [decide_eq_false hm2]
  simp only [cond_false, checkE n (by omega) l (by omega) hk, circlesE n (by omega) l (by omega) hk, Option.bind_some]
  cases hr : rightP l with
  | false => rfl
  | true =>
    by_cases hc : Circ l
    · rw [decide_eq_true hc]; rfl
    · rw [decide_eq_false hc]
      simp only [if_true, bne_self_eq_false, cond_false, Bool.true_and]
      obtain ⟨to, from_⟩ := ends
      simp only at hto hfrom hm hm2 ⊢
      show law09_WaitsThrough_l1 n n (l, t, from_, to, (to.length : Int), ((0 : Nat) : Int), [], ()) = _
      unfold law09_WaitsThrough_l1
      rw [run_loopI to (fun i (z : List Edge) => (l, t, from_, to, (to.length : Int), (i : Int), z, ())) (fun _ x z => .inr (z ++ [Edge.mk t x])) (fun z => law09_WaitsThrough_l2 n n (l, t, from_, (from_.length : Int), ((0 : Nat) : Int), z, ())) (fun i z => z.length = i) ?_ ?_ ?_ n 0 [] (Nat.zero_le _) (by omega) rfl]
      · rw [List.drop_zero, runL_fold (g := fun (x : Int) (z : List Edge) => z ++ [Edge.mk t x])]
        have hf : ∀ (xs : List Int) (acc : List Edge) (f : Int → Edge), xs.foldl (fun z x => z ++ [f x]) acc = acc ++ xs.map f := fun xs => by
          induction xs with
          | nil => intro acc f; simp
          | cons x xs ih => intro acc f; rw [List.foldl_cons, ih]; simp
        rw [hf to [] (Edge.mk t), List.nil_append]
        unfold law09_WaitsThrough_l2
        rw [run_loopI from_ (fun i (z : List Edge) => (l, t, from_, (from_.length : Int), (i : Int), z, ())) (fun _ x z => .inr (z ++ [Edge.mk x t])) (fun z => if z = to.map (Edge.mk t) ++ from_.map (fun x => Edge.mk x t) then some true else none) (fun i z => z = to.map (Edge.mk t) ++ (from_.take i).map (fun x => Edge.mk x t)) ?_ ?_ ?_ n 0 _ (Nat.zero_le _) (by omega) (by simp)]
        · rw [List.drop_zero, runL_fold (g := fun (x : Int) (z : List Edge) => z ++ [Edge.mk x t]), hf from_ _ fun x => Edge.mk x t, if_pos rfl]
        · intro i z x z' hx hI h
          cases h
          obtain ⟨hi, rfl⟩ := List.getElem?_eq_some_iff.1 hx
          rw [hI, List.take_succ_eq_append_getElem hi, List.map_append, List.append_assoc]; rfl
        · intro r i z x hx hi hI
          have : z.length ≤ 40 := by rw [hI]; simp; omega
          simp only [lt_dec hi, cond_true, idx_nat, hx, Option.bind_some, app_lt (show z.length + [Edge.mk x t].length ≤ 1000000 by simp; omega) (show 16 ≤ 1000 by omega), wrap_succ (show i < 4611686018427387904 by omega)]
        · intro r z hI
          rw [List.take_length] at hI
          subst hI
          rw [if_pos rfl]
          simp only [ge_dec (Nat.lt_irrefl _), cond_false]
          refine through_end n hn l _ t (by omega) (by simp; omega) hk ?_ ht hr hc ?_
          · intro e he
            simp only [List.mem_append, List.mem_map] at he
            rcases he with ⟨x, hx, rfl⟩ | ⟨x, hx, rfl⟩
            · exact ⟨ht, hto x hx⟩
            · exact ⟨hfrom x hx, ht⟩
          · intro e he
            simp only [List.mem_append, List.mem_map] at he
            rcases he with ⟨x, hx, rfl⟩ | ⟨x, hx, rfl⟩
            · exact .inl rfl
            · exact .inr rfl
      · intro i z x z' hx hI h
        cases h
        simp [hI]
      · intro r i z x hx hi hI
        simp only [lt_dec hi, cond_true, idx_nat, hx, Option.bind_some, app_lt (show z.length + [Edge.mk t x].length ≤ 1000000 by simp; omega) (show 16 ≤ 1000 by omega), wrap_succ (show i < 4611686018427387904 by omega)]
      · intro r z hI
        simp only [ge_dec (Nat.lt_irrefl _), cond_false]
        rfl
end Go.Proofs.Ytkfemopgfjooeaa
