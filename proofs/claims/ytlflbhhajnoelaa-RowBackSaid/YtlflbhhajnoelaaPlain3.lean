/- The plain laws of layer 5, third part: RowChanges, RowBack. -/
import Derived.Test.YtlflbhhajnoelaaPlain2
import Derived.Test.YtlflbhhajnoelaaF7
namespace Go.Proofs.Ytlflbhhajnoelaa
open Go.Bur
set_option linter.unusedSimpArgs false
set_option linter.unusedVariables false
set_option maxRecDepth 100000

/-! ### Right lists -/
def good (s : Schema) (l : List Row) : Prop := (∀ r ∈ l, rowErr s r = 0) ∧ l.Pairwise (fun a b => cmpK a.key b.key < 0)
def chk (s : Schema) (l : List Row) (i : Nat) : Prop := ∀ j (h : j < l.length), i ≤ j → rowErr s l[j] = 0 ∧ ∀ m, j = m + 1 → ∀ h' : m < l.length, cmpK (l[m]).key (l[j]).key < 0
theorem chk_good {s : Schema} {l : List Row} : chk s l 0 ↔ good s l := by
  constructor
  · intro h
    refine ⟨fun r hr => ?_, ?_⟩
    · obtain ⟨j, hj, rfl⟩ := List.getElem_of_mem hr
      exact (h j hj (Nat.zero_le _)).1
    · rw [List.pairwise_iff_getElem]
      intro i j hi hj hij
      obtain ⟨d, rfl⟩ : ∃ d, j = i + d + 1 := ⟨j - i - 1, by omega⟩
      clear hij
      induction d with
      | zero => exact (h _ hj (Nat.zero_le _)).2 i rfl hi
      | succ d ih => exact cmpK_ltt (ih (by omega)) ((h _ hj (Nat.zero_le _)).2 (i + d + 1) rfl (by omega))
  · rintro ⟨h1, h2⟩ j hj _
    rw [List.pairwise_iff_getElem] at h2
    exact ⟨h1 _ (List.getElem_mem hj), fun m hm h' => h2 m j h' hj (by omega)⟩
theorem good_l1 {n : Nat} (hn : 150 ≤ n) (hn' : n ≤ 1000) (s : Schema) (hs : s.tables.length ≤ 20) (hr : right s = true) {l : List Row} (hl : l.length ≤ 100) : ∀ (m i : Nat), i ≤ l.length → l.length < m + i →
    ∃ b, ref05_RightList_l1 n s l m (i : Int) = some b ∧ row_CheckList_l1 n s l m (i : Int) = some (if b ∧ l.length ≤ 60 then 0 else 151) ∧ (b = true ↔ chk s l i)
  | 0, i, h0, h => by omega
  | m + 1, i, h0, h => by
    unfold ref05_RightList_l1 row_CheckList_l1
    by_cases hi : i < l.length
    · rw [condT' (lt_dec hi), condT' (lt_dec hi), idx_nat, get_some hi]
      have h2 := checkRow_eq hn hn' s hs l[i]
      rw [if_pos hr] at h2
      simp only [Option.bind_some, rowError_eq, h2]
      have hstep : ∀ b, (b = true ↔ chk s l (i + 1)) → rowErr s l[i] = 0 → (∀ m, i = m + 1 → ∀ h' : m < l.length, cmpK (l[m]).key (l[i]).key < 0) → (b = true ↔ chk s l i) := fun b hb he hc => by
        rw [hb]
        constructor
        · intro hk j hj hij
          by_cases e : j = i
          · subst e; exact ⟨he, hc⟩
          · exact hk j hj (by omega)
        · intro hk j hj hij
          exact hk j hj (by omega)
      by_cases he : rowErr s l[i] = 0
      · simp only [he, bne_self_eq_false, cond_false]
        obtain ⟨b, k1, k2, k3⟩ := good_l1 hn hn' s hs hr hl m (i + 1) (by omega) (by omega)
        rcases i with _ | i
        · refine ⟨b, ?_, ?_, hstep b k3 he fun m hm => by omega⟩
          · rw [condF' (by simp)]
            simp only [ref05_RightList_j1, cond_false]
            rw [wrap_succ (by omega)]; exact k1
          · rw [condF' (by simp)]
            simp only [row_CheckList_j1, cond_false]
            rw [wrap_succ (by omega)]; exact k2
        · rw [condT' (by simp), condT' (by simp), wrap_pred (by omega), idx_nat, get_some (by omega)]
          simp only [Option.bind_some, compare_eq n (show 3 ≤ n by omega), ref_compare]
          by_cases hc : cmpK l[i].key l[i+1].key ≥ 0
          · refine ⟨false, ?_, ?_, ⟨fun hb => (by cases hb), fun hk => ?_⟩⟩
            · simp only [ref05_RightList_j1, hc, decide_true, cond_true]
            · simp only [row_CheckList_j1, hc, decide_true, cond_true]; simp
            · have := (hk (i + 1) hi (Nat.le_refl _)).2 i rfl (by omega)
              omega
          · refine ⟨b, ?_, ?_, hstep b k3 he fun m hm h' => ?_⟩
            · simp only [ref05_RightList_j1, hc, decide_false, cond_false]
              rw [wrap_succ (by omega)]; exact k1
            · simp only [row_CheckList_j1, hc, decide_false, cond_false]
              rw [wrap_succ (by omega)]; exact k2
            · obtain rfl : i = m := by omega
              omega
      · rw [condT' (by simpa using he), condT' (by simpa using he)]
        exact ⟨false, rfl, by simp [row_CheckList_j1], ⟨fun hb => (by cases hb), fun hk => absurd (hk i hi (Nat.le_refl _)).1 he⟩⟩
    · rw [condF' (ge_dec hi), condF' (ge_dec hi), all1 (by omega)]
      refine ⟨true, rfl, ?_, ⟨fun _ j hj hij => by omega, fun _ => rfl⟩⟩
      by_cases h60 : l.length ≤ 60
      · rw [condT' (by simp; omega), if_pos ⟨rfl, h60⟩]; rfl
      · rw [condF' (by simp; omega), if_neg (fun h => h60 h.2)]; rfl
theorem good_list {n : Nat} (hn : 150 ≤ n) (hn' : n ≤ 1000) {s : Schema} (hs : s.tables.length ≤ 20) (hr : right s = true) {l : List Row} (hl : l.length ≤ 100) :
    ∃ b, ref05_RightList n s l = some b ∧ row_CheckList n s l = some (if b then 0 else 151) ∧ (b = true ↔ good s l ∧ l.length ≤ 60) := by
  unfold row_CheckList
  rw [bindE (check_eq hn hn' s hs), hr]
  obtain ⟨b, h1, h2, h3⟩ := good_l1 hn hn' s hs hr hl n 0 (by omega) (by omega)
  rw [chk_good] at h3
  have h2' : row_CheckList_l1 n s l n 0 = _ := h2
  simp only [if_true, bne_self_eq_false, cond_false, h2']
  unfold ref05_RightList
  by_cases h60 : l.length ≤ 60
  · rw [condF' (by simp; omega)]
    exact ⟨b, h1, by simp [h60], by rw [h3]; simp [h60]⟩
  · rw [condT' (by simp; omega)]
    exact ⟨false, rfl, by simp [h60], by simp [h60]⟩
theorem bad_list {n : Nat} (hn : 150 ≤ n) (hn' : n ≤ 1000) {s : Schema} (hs : s.tables.length ≤ 20) (hr : right s = false) (l : List Row) : row_CheckList n s l = some 150 := by
  unfold row_CheckList
  rw [bindE (check_eq hn hn' s hs), hr]; rfl
theorem good_check {n : Nat} (hn : 150 ≤ n) (hn' : n ≤ 1000) {s : Schema} (hs : s.tables.length ≤ 20) (hr : right s = true) {l : List Row} (hg : good s l) (hl : l.length ≤ 60) : row_CheckList n s l = some 0 := by
  obtain ⟨b, _, h2, h3⟩ := good_list hn hn' hs hr (l := l) (by omega)
  rw [h2, h3.2 ⟨hg, hl⟩]; rfl

/-! ### Where a key is in a right list -/
/-- l is A, perhaps y with the key, and B. -/
structure At (l : List Row) (k : Key) (A : List Row) (y : Option Row) (B : List Row) : Prop where
  eq : l = A ++ (y.toList ++ B)
  lo : ∀ r ∈ A, cmpK r.key k < 0
  mid : ∀ r, y = some r → r.key = k
  hi : ∀ r ∈ B, cmpK k r.key < 0
theorem at_ex (k : Key) : ∀ {l : List Row}, l.Pairwise (fun a b => cmpK a.key b.key < 0) → ∃ A y B, At l k A y B
  | [], _ => ⟨[], none, [], ⟨rfl, by simp, by simp, by simp⟩⟩
  | x :: l, h => by
    rw [List.pairwise_cons] at h
    have hn := cmpK_neg (a := x.key) (b := k)
    rcases Int.lt_trichotomy (cmpK x.key k) 0 with h1 | h1 | h1
    · obtain ⟨A, y, B, ha⟩ := at_ex k h.2
      refine ⟨x :: A, y, B, ⟨by rw [ha.eq]; rfl, fun r hr => ?_, ha.mid, ha.hi⟩⟩
      rcases List.mem_cons.1 hr with rfl | hr
      · exact h1
      · exact ha.lo r hr
    · have hk := cmpK_zero.1 h1
      exact ⟨[], some x, l, ⟨rfl, by simp, fun r hr => by cases hr; exact hk, fun r hr => hk ▸ h.1 r hr⟩⟩
    · refine ⟨[], none, x :: l, ⟨rfl, by simp, by simp, fun r hr => ?_⟩⟩
      rcases List.mem_cons.1 hr with rfl | hr
      · omega
      · exact cmpK_ltt (by omega) (h.1 r hr)
theorem at_lt {l : List Row} {k : Key} {A B : List Row} {y : Option Row} (h : At l k A y B) {i : Nat} (hi : i < l.length) (hA : i < A.length) : cmpK l[i].key k < 0 := by
  have e := h.eq
  subst e
  rw [List.getElem_append_left hA]
  exact h.lo _ (List.getElem_mem hA)
theorem at_ge {l : List Row} {k : Key} {A B : List Row} {y : Option Row} (h : At l k A y B) {i : Nat} (hi : i < l.length) (hA : A.length ≤ i) : ¬ cmpK l[i].key k < 0 := by
  have e := h.eq
  subst e
  rw [List.getElem_append_right hA]
  have hm := List.getElem_mem (l := y.toList ++ B) (n := i - A.length) (by simp at hi ⊢; omega)
  rcases List.mem_append.1 hm with hm | hm
  · cases y with
    | none => cases hm
    | some r =>
      simp only [Option.toList_some, List.mem_singleton] at hm
      simp only [Option.toList_some] at hm ⊢
      rw [hm, cmpK_zero.2 (h.mid r rfl)]; omega
  · have := h.hi _ hm
    have := cmpK_neg (a := ((y.toList ++ B)[i - A.length]'(by simp at hi ⊢; omega)).key) (b := k)
    omega
theorem at_len {l : List Row} {k : Key} {A B : List Row} {y : Option Row} (h : At l k A y B) : l.length = A.length + (y.toList.length + B.length) := by rw [h.eq]; simp
theorem at_idx {l : List Row} {k : Key} {A B : List Row} {r : Row} (h : At l k A (some r) B) : idx l (A.length : Int) = some r := by
  rw [idx_nat, h.eq, List.getElem?_append_right (Nat.le_refl _)]; simp
theorem half {x : Nat} (h : x < 4611686018427387904) : IntKind.wrap .i64 (shrV .u64 (IntKind.wrap .u64 (IntKind.wrap .i64 (x : Int))) 1) = ((x / 2 : Nat) : Int) := by
  have e0 : IntKind.wrap .i64 (x : Int) = x := wrap_in (by omega)
  rw [e0]
  have e : IntKind.wrap .u64 (x : Int) = x := by rw [IntKind.wrap_u64]; omega
  rw [e]
  have e2 : shrV .u64 (x : Int) 1 = ((x / 2 : Nat) : Int) := by
    unfold shrV
    have e3 : (2 : Int) ^ (min (Int.toNat 1) (IntKind.u64.bits)) = 2 := by decide
    rw [e3, Int.fdiv_eq_ediv_of_nonneg _ (by decide)]
    omega
  rw [e2, wrap_in (by omega)]
theorem place1 (n : Nat) (hn : 3 ≤ n) : (fun a b => row_place_1 n a b) = fun (a : Row) b => some (cmpK a.key b) := by
  funext a b
  simp only [row_place_1, compare_eq n hn, Option.bind_some]
theorem search {n : Nat} (hn : 3 ≤ n) {l : List Row} (hl : l.length ≤ 100) {k : Key} {A B : List Row} {y : Option Row} (h : At l k A y B) : ∀ (m i j : Nat), i ≤ A.length → A.length ≤ j → j ≤ l.length → j - i < m →
    slices_BinarySearchFunc_Key_l1 n l k (fun a b => some (cmpK a.key b)) m (i : Int) (j : Int) = some ((A.length : Int), y.isSome)
  | 0, i, j, h1, h2, h3, hm => by omega
  | m + 1, i, j, h1, h2, h3, hm => by
    unfold slices_BinarySearchFunc_Key_l1
    by_cases hij : i < j
    · have e : ((i : Int) + (j : Int)) = ((i + j : Nat) : Int) := by omega
      rw [condT' (by simpa using hij), e, half (by omega), idx_nat, get_some (show (i + j) / 2 < l.length by omega)]
      simp only [shrP, Option.bind_some]
      rw [if_pos (by decide)]
      simp only [Option.bind_some]
      by_cases hA : (i + j) / 2 < A.length
      · have := at_lt h (show (i + j) / 2 < l.length by omega) hA
        rw [condT' (by simpa using this), wrap_succ (by omega)]
        exact search hn hl h m ((i + j) / 2 + 1) j (by omega) h2 h3 (by omega)
      · have := at_ge h (show (i + j) / 2 < l.length by omega) (by omega)
        rw [condF' (by simpa using this)]
        exact search hn hl h m i ((i + j) / 2) h1 (by omega) (by omega) (by omega)
    · obtain rfl : i = A.length := by omega
      obtain rfl : j = A.length := by omega
      rw [condF' (by simp)]
      have hlen := at_len h
      by_cases hA : A.length < l.length
      · rw [condT' (lt_dec hA), idx_nat, get_some hA]
        simp only [Option.bind_some, slices_BinarySearchFunc_Key_j1]
        congr 2
        cases y with
        | some r =>
          have h5 := at_idx h
          rw [idx_nat, get_some hA] at h5
          injection h5 with h5
          rw [h5, cmpK_zero.2 (h.mid r rfl)]; rfl
        | none =>
          have e := h.eq
          have hm : l[A.length] ∈ B := by
            subst e
            rw [List.getElem_append_right (Nat.le_refl _)]
            exact List.getElem_mem _
          have h6 := h.hi _ hm
          have h7 := cmpK_neg (a := k) (b := l[A.length].key)
          simp only [Option.isSome_none, beq_eq_false_iff_ne]
          omega
      · rw [condF' (ge_dec hA)]
        cases y with
        | some r => simp at hlen; omega
        | none => rfl
theorem place_eq {n : Nat} (hn : 150 ≤ n) {l : List Row} (hl : l.length ≤ 100) {k : Key} {A B : List Row} {y : Option Row} (h : At l k A y B) : row_place n l k = some ((A.length : Int), y.isSome) := by
  unfold row_place slices_BinarySearchFunc_Key
  have hlen := at_len h
  have := search (n := n) (by omega) hl h n 0 l.length (by omega) (by omega) (Nat.le_refl _) (by omega)
  rw [place1 n (by omega), bindE (show slices_BinarySearchFunc_Key_l1 n l k (fun a b => some (cmpK a.key b)) n 0 (l.length : Int) = _ from this)]
theorem find_at {n : Nat} {l : List Row} (hl : l.length ≤ 100) {k : Key} {A B : List Row} {y : Option Row} (h : At l k A y B) : ∀ (m i : Nat), i ≤ l.length → l.length < m + i →
    (i ≤ A.length → ref05_Find_l1 n l k m (i : Int) = some (if y.isSome then (A.length : Int) else -1)) ∧ (A.length < i → ref05_Find_l1 n l k m (i : Int) = some (-1))
  | 0, i, h0, hm => by omega
  | m + 1, i, h0, hm => by
    unfold ref05_Find_l1
    have hlen := at_len h
    by_cases hi : i < l.length
    · rw [condT' (lt_dec hi), idx_nat, get_some hi]
      simp only [Option.bind_some, key_eqb]
      obtain ⟨ih1, ih2⟩ := find_at (n := n) hl h m (i + 1) (by omega) (by omega)
      have hne : ∀ hk : l[i].key ≠ k, cond (decide (l[i].key = k)) (some (i : Int)) (ref05_Find_l1 n l k m (IntKind.wrap .i64 ((i : Int) + 1))) = ref05_Find_l1 n l k m ((i + 1 : Nat) : Int) := fun hk => by
        rw [condF' (by simpa using hk), wrap_succ (by omega)]
      have hbig : A.length < i ∨ (A.length = i ∧ y = none) → l[i].key ≠ k := fun hb e => by
        have h6 : cmpK l[i].key k = 0 := cmpK_zero.2 e
        have hm : l[i] ∈ B := by
          have e := h.eq
          subst e
          rw [List.getElem_append_right (by omega)]
          cases y with
          | none => exact List.getElem_mem _
          | some r =>
            have : A.length < i := by rcases hb with h | h; · exact h
                                      · cases h.2
            simp only [Option.toList_some]
            rw [List.getElem_append_right (by simp; omega)]
            exact List.getElem_mem _
        have h7 := h.hi _ hm
        have h8 := cmpK_neg (a := k) (b := l[i].key)
        omega
      refine ⟨fun hA => ?_, fun hA => ?_⟩
      · by_cases hA' : i < A.length
        · have h5 := at_lt h hi hA'
          rw [hne fun e => by rw [cmpK_zero.2 e] at h5; omega]
          exact ih1 (by omega)
        · obtain rfl : i = A.length := by omega
          cases y with
          | some r =>
            have h5 := at_idx h
            rw [idx_nat, get_some hi] at h5
            injection h5 with h5
            rw [condT' (by rw [h5]; simpa using h.mid r rfl)]; rfl
          | none =>
            rw [hne (hbig (.inr ⟨rfl, rfl⟩))]
            exact ih2 (by omega)
      · rw [hne (hbig (.inl hA))]
        exact ih2 (by omega)
    · rw [condF' (ge_dec hi)]
      refine ⟨fun hA => ?_, fun _ => rfl⟩
      cases y with
      | none => rfl
      | some r => simp at hlen; omega
theorem find_ok {n : Nat} (hn : 150 ≤ n) {l : List Row} (hl : l.length ≤ 100) {k : Key} {A B : List Row} {y : Option Row} (h : At l k A y B) : ref05_Find n l k = some (if y.isSome then (A.length : Int) else -1) :=
  (find_at (n := n) hl h n 0 (by omega) (by omega)).1 (by omega)
theorem filt_at {l : List Row} {k : Key} {A B : List Row} {y : Option Row} (h : At l k A y B) : l.filter (fun r => !Key.eqb r.key k) = A ++ B := by
  rw [h.eq, List.filter_append, List.filter_append]
  have e1 : A.filter (fun r => !Key.eqb r.key k) = A := by
    rw [List.filter_eq_self]
    intro r hr
    have := h.lo r hr
    rw [key_eqb]
    simp only [Bool.not_eq_true', decide_eq_false_iff_not]
    intro e
    rw [cmpK_zero.2 e] at this; omega
  have e2 : B.filter (fun r => !Key.eqb r.key k) = B := by
    rw [List.filter_eq_self]
    intro r hr
    have := h.hi r hr
    rw [key_eqb]
    simp only [Bool.not_eq_true', decide_eq_false_iff_not]
    intro e
    rw [e, cmpK_zero.2 rfl] at this; omega
  rw [e1, e2]
  cases y with
  | none => rfl
  | some r => simp [key_eqb, h.mid r rfl]
theorem without_l1 {n : Nat} {l : List Row} (hl : l.length ≤ 100) {k : Key} : ∀ (m : Nat) (a : List Row) (i : Nat), i ≤ l.length → l.length < m + i → a.length ≤ i → ref05_Without_l1 n l k m a (i : Int) = some (a ++ (l.drop i).filter (fun r => !Key.eqb r.key k))
  | 0, a, i, h0, h, _ => by omega
  | m + 1, a, i, h0, h, ha => by
    unfold ref05_Without_l1
    by_cases hi : i < l.length
    · rw [condT' (lt_dec hi), idx_nat, get_some hi, drop_cons hi]
      simp only [Option.bind_some, ref05_Without_j1, List.filter_cons]
      rw [wrap_succ (by omega)]
      cases hk : Key.eqb l[i].key k with
      | false =>
        rw [app_lt (by simp; omega) (by decide)]
        simp only [Bool.not_false, cond_true, Option.bind_some, if_true]
        rw [without_l1 hl m _ (i + 1) (by omega) (by omega) (by simp; omega), List.append_assoc]; rfl
      | true =>
        simp only [Bool.not_true, cond_false, Bool.false_eq_true, if_false]
        exact without_l1 hl m _ (i + 1) (by omega) (by omega) (by omega)
    · rw [condF' (ge_dec hi), drop_nil hi]; simp
theorem without_ok {n : Nat} (hn : 150 ≤ n) {l : List Row} (hl : l.length ≤ 100) {k : Key} {A B : List Row} {y : Option Row} (h : At l k A y B) : ref05_Without n l k = some (A ++ B) := by
  have := without_l1 (n := n) hl (k := k) n [] 0 (by omega) (by omega) (by simp)
  rw [List.drop_zero, List.nil_append, filt_at h] at this
  exact this
theorem with_l1 {n : Nat} {r : Row} {A B : List Row} (hl : (A ++ B).length ≤ 100) (hA : ∀ x ∈ A, cmpK x.key r.key < 0) (hB : ∀ x ∈ B, cmpK r.key x.key < 0) : ∀ (m : Nat) (a : List Row) (i : Nat), i ≤ (A ++ B).length → (A ++ B).length < m + i → a.length ≤ i + 1 → (i ≤ A.length → a.length ≤ i) →
    ref05_With_l1 n r (A ++ B) m a (decide (A.length < i)) (i : Int) = some (a ++ (if i ≤ A.length then A.drop i ++ r :: B else (A ++ B).drop i))
  | 0, a, i, h0, h, _, _ => by omega
  | m + 1, a, i, h0, h, ha, haA => by
    unfold ref05_With_l1
    by_cases hi : i < (A ++ B).length
    · rw [condT' (lt_dec hi)]
      have cont : ∀ (b : Bool) (a' : List Row) (R : List Row), b = decide (A.length < i + 1) → a'.length ≤ i + 1 → (i + 1 ≤ A.length → a'.length ≤ i) → (a' ++ [(A ++ B)[i]]) ++ (if i + 1 ≤ A.length then A.drop (i + 1) ++ r :: B else (A ++ B).drop (i + 1)) = R →
          ref05_With_j1 n (A ++ B) (i : Int) (ref05_With_l1 n r (A ++ B) m) b a' = some R := fun b a' R hb ha' haA' hR => by
        unfold ref05_With_j1
        rw [idx_nat, get_some hi]
        simp only [Option.bind_some]
        rw [app_lt (by simp; omega) (by decide), wrap_succ (by omega)]
        simp only [Option.bind_some]
        rw [hb, with_l1 hl hA hB m _ (i + 1) (by omega) (by omega) (by simp; omega) (by simp; omega), hR]
      by_cases hiA : i ≤ A.length
      · have e : decide (A.length < i) = false := decide_eq_false (by omega)
        rw [e, idx_nat, get_some hi, if_pos hiA]
        simp only [Bool.not_false, cond_true, Option.bind_some, ref_compare]
        by_cases hlt : i < A.length
        · have h1 : (A ++ B)[i] = A[i] := List.getElem_append_left hlt
          have h2 := hA A[i] (List.getElem_mem hlt)
          have h3 := cmpK_neg (a := r.key) (b := A[i].key)
          unfold ref05_With_j2
          rw [condF' (by rw [h1]; simp; omega)]
          refine cont _ _ _ (by symm; exact decide_eq_false (by omega)) (by omega) (by omega) ?_
          rw [if_pos (by omega), h1, List.append_assoc, drop_cons (l := A) hlt]; rfl
        · obtain rfl : i = A.length := by omega
          have hb : B ≠ [] := fun e => by subst e; simp at hi
          obtain ⟨x, B', rfl⟩ := List.exists_cons_of_ne_nil hb
          have h1 : (A ++ x :: B')[A.length] = x := by simp
          have h2 := hB x (List.mem_cons_self ..)
          unfold ref05_With_j2
          rw [condT' (by rw [h1]; simpa using h2), app_lt (by simp at hl ha ⊢; omega) (by decide)]
          simp only [Option.bind_some]
          by_cases ha2 : (a ++ [r]).length ≤ A.length + 1
          · refine cont _ _ _ (by symm; exact decide_eq_true (by omega)) ha2 (by omega) ?_
            rw [if_neg (by omega), h1]
            simp
          · unfold ref05_With_j1
            rw [idx_nat, get_some hi]
            simp only [Option.bind_some]
            rw [app_lt (by simp at hl ha ⊢; omega) (by decide), wrap_succ (by omega)]
            simp only [Option.bind_some]
            exfalso
            exact ha2 (by have := haA (Nat.le_refl _); simp; omega)
      · have e : decide (A.length < i) = true := decide_eq_true (by omega)
        rw [e, if_neg hiA]
        unfold ref05_With_j2
        simp only [Bool.not_true, cond_false]
        have := cont true a (a ++ (A ++ B).drop i) (by symm; exact decide_eq_true (by omega))
        by_cases ha2 : a.length ≤ i + 1
        · refine this ha2 (by omega) ?_
          rw [if_neg (by omega), drop_cons hi, List.append_assoc]; rfl
        · omega
    · obtain rfl : i = (A ++ B).length := by omega
      rw [condF' (ge_dec hi)]
      by_cases hB0 : B = []
      · subst hB0
        have e : decide (A.length < (A ++ []).length) = false := by simp
        rw [e]
        simp only [Bool.not_false, cond_true]
        rw [app_lt (by simp at ha hl ⊢; omega) (by decide)]
        simp
      · have : 0 < B.length := List.length_pos_iff.2 hB0
        have e : decide (A.length < (A ++ B).length) = true := decide_eq_true (by simp; omega)
        rw [e, if_neg (by simp; omega)]
        simp
theorem with_ok {n : Nat} (hn : 150 ≤ n) {l : List Row} (hl : l.length ≤ 100) {r : Row} {A B : List Row} {y : Option Row} (h : At l r.key A y B) : ref05_With n l r = some (A ++ r :: B) := by
  unfold ref05_With
  rw [bindE (without_ok hn hl h)]
  have hlen := at_len h
  have := with_l1 (n := n) (r := r) (A := A) (B := B) (by simp; omega) h.lo h.hi n [] 0 (by omega) (by simp; omega) (by simp) (by simp)
  rw [if_pos (Nat.zero_le _)] at this
  have e : decide (A.length < 0) = false := by simp
  rw [e] at this
  simpa using this

/-! ### What put and take come to -/
theorem good_sub {s : Schema} {l m : List Row} (h : good s l) (hs : m.Sublist l) : good s m := ⟨fun r hr => h.1 r (hs.subset hr), h.2.sublist hs⟩
theorem good_less {s : Schema} {l : List Row} {k : Key} {A B : List Row} {y : Option Row} (h : At l k A y B) (hg : good s l) : good s (A ++ B) := by
  refine good_sub hg ?_
  rw [h.eq]
  exact List.Sublist.append (List.Sublist.refl _) (List.sublist_append_right _ _)
theorem good_more {s : Schema} {l : List Row} {r : Row} {A B : List Row} {y : Option Row} (h : At l r.key A y B) (hg : good s l) (hr : rowErr s r = 0) : good s (A ++ r :: B) := by
  have h1 := good_less h hg
  refine ⟨fun x hx => ?_, ?_⟩
  · rcases List.mem_append.1 hx with hx | hx
    · exact h1.1 x (List.mem_append_left _ hx)
    · rcases List.mem_cons.1 hx with rfl | hx
      · exact hr
      · exact h1.1 x (List.mem_append_right _ hx)
  · have h2 := List.pairwise_append.1 h1.2
    rw [List.pairwise_append]
    refine ⟨h2.1, List.pairwise_cons.2 ⟨h.hi, h2.2.1⟩, fun a ha b hb => ?_⟩
    rcases List.mem_cons.1 hb with rfl | hb
    · exact h.lo a ha
    · exact h2.2.2 a ha b hb
theorem at_more {l : List Row} {r : Row} {A B : List Row} {y : Option Row} (h : At l r.key A y B) : At (A ++ r :: B) r.key A (some r) B := ⟨rfl, h.lo, fun x hx => by cases hx; rfl, h.hi⟩
theorem at_less {l : List Row} {k : Key} {A B : List Row} {y : Option Row} (h : At l k A y B) : At (A ++ B) k A none B := ⟨rfl, h.lo, by simp, h.hi⟩
theorem clone_ok {n : Nat} {l : List Row} (hl : l.length ≤ 100) : slices_Clone_Row n l = some l := by
  unfold slices_Clone_Row
  rw [app_lt (by simp; omega) (by decide), List.nil_append]
theorem put_bad {n : Nat} {s : Schema} {l : List Row} {r : Row} {e : Int} (h : row_CheckList n s l = some e) (he : e ≠ 0) : row_Put n s l r = some ([], e) := by
  unfold row_Put
  rw [bindE h, condT' (by simpa using he)]
abbrev zeroR : Row := Row.mk (Key.mk 0 0) 0 ByteArray.empty
theorem take_bad {n : Nat} {s : Schema} {l : List Row} {k : Key} {e : Int} (h : row_CheckList n s l = some e) (he : e ≠ 0) : row_Take n s l k = some ([], zeroR, e) := by
  unfold row_Take
  rw [bindE h, condT' (by simpa using he)]
def putErr (s : Schema) (l : List Row) (r : Row) (y : Option Row) : Int := if rowErr s r ≠ 0 then rowErr s r else if y = none ∧ l.length = 60 then 6 else 0
theorem put_ok {n : Nat} (hn : 150 ≤ n) (hn' : n ≤ 1000) {s : Schema} (hs : s.tables.length ≤ 20) (hr : right s = true) {l : List Row} (hg : good s l) (hl : l.length ≤ 60) {r : Row} {A B : List Row} {y : Option Row} (h : At l r.key A y B) :
    row_Put n s l r = some (if putErr s l r y = 0 then (A ++ r :: B, 0) else ([], putErr s l r y)) := by
  unfold row_Put
  rw [bindE (good_check hn hn' hs hr hg hl), bindE (checkRow_eq hn hn' s hs r), hr]
  simp only [bne_self_eq_false, cond_false, if_true]
  unfold putErr
  by_cases he : rowErr s r = 0
  · simp only [he, bne_self_eq_false, cond_false, ne_eq, not_true_eq_false, if_false]
    rw [bindE (place_eq hn (by omega) h), bindE (clone_ok (by omega))]
    have hlen := at_len h
    have heq := h.eq
    cases y with
    | some r0 =>
      rw [bindE (at_idx h)]
      simp only [Option.isSome_some, cond_true, reduceCtorEq, false_and, if_false, if_true]
      have : put l (A.length : Int) r = some (A ++ r :: B) := by
        unfold put
        rw [if_pos ⟨by omega, by simp at hlen; omega⟩, Int.toNat_natCast, heq]
        simp
      rw [bindE this]
    | none =>
      simp only [Option.isSome_none, cond_false, true_and]
      by_cases h60 : l.length = 60
      · rw [if_pos h60, condT' (by simp [h60])]; rfl
      · rw [if_neg h60, condF' (by simp; omega)]
        have : slices_Insert_Row n l (A.length : Int) [r] = some (A ++ r :: B) := by
          unfold slices_Insert_Row
          rw [if_pos ⟨by omega, by simp at hlen; omega⟩, room_ok (by simp; omega), Int.toNat_natCast, heq]
          simp
        rw [bindE this]; rfl
  · rw [condT' (by simpa using he), if_pos he, if_neg he]
def takeErr (s : Schema) (k : Key) (y : Option Row) : Int := if keyErr s k ≠ 0 then keyErr s k else if y = none then 4 else 0
theorem take_ok {n : Nat} (hn : 150 ≤ n) (hn' : n ≤ 1000) {s : Schema} (hs : s.tables.length ≤ 20) (hr : right s = true) {l : List Row} (hg : good s l) (hl : l.length ≤ 60) {k : Key} {A B : List Row} {y : Option Row} (h : At l k A y B) :
    row_Take n s l k = some (match (if keyErr s k ≠ 0 then none else y) with | some r => (A ++ B, r, 0) | none => ([], zeroR, takeErr s k y)) := by
  unfold row_Take
  rw [bindE (good_check hn hn' hs hr hg hl), bindE (checkKey_eq hn hn' s hs k), hr]
  simp only [bne_self_eq_false, cond_false, if_true]
  unfold takeErr
  by_cases he : keyErr s k = 0
  · simp only [he, bne_self_eq_false, cond_false, ne_eq, not_true_eq_false, if_false]
    rw [bindE (place_eq hn (by omega) h)]
    have hlen := at_len h
    have heq := h.eq
    cases y with
    | none => rfl
    | some r0 =>
      simp only [Option.isSome_some, Bool.not_true, cond_false]
      rw [bindE (clone_ok (by omega))]
      have : slices_Delete_Row n l (A.length : Int) (IntKind.wrap .i64 ((A.length : Int) + 1)) = some (A ++ B) := by
        simp at hlen
        unfold slices_Delete_Row
        rw [wrap_succ (by omega), if_pos ⟨by omega, by omega, by omega⟩, Int.toNat_natCast, Int.toNat_natCast, heq]
        have e1 : (A ++ ((some r0).toList ++ B)).drop (A.length + 1) = B := by
          rw [List.drop_append]; simp
        rw [e1]
        simp
      rw [bindE this, bindE (at_idx h)]
  · rw [condT' (by simpa using he), if_pos he, if_pos he]
theorem key_in {s : Schema} {l : List Row} {k : Key} {A B : List Row} {r : Row} (h : At l k A (some r) B) (hg : good s l) : keyErr s k = 0 := by
  have := rowErr_key (hg.1 r (by rw [h.eq]; simp))
  rwa [h.mid r rfl] at this

/-! ### RowChanges -/
theorem j3_ok {n : Nat} (hn : 201 ≤ n) {l : List Row} {r : Row} {P : List Row × Int} {T : List Row × Row × Int} {f v40 v41 : Int} (p1 : P.2 = v40) (p2 : v40 ≠ 0 → P.1 = []) (p3 : v40 = 0 → ref05_With n l r = some P.1 ∧ P.1.length ≤ 200)
    (t1 : T.2.2 = v41) (t2 : v41 ≠ 0 → T.1 = [] ∧ T.2.1 = zeroR) (t3 : v41 = 0 → ref05_Without n l r.key = some T.1 ∧ T.1.length ≤ 200 ∧ idx l f = some T.2.1) : law05_RowChanges_j3 n l r P T f v40 v41 = some true := by
  unfold law05_RowChanges_j3
  have c1 : ((((P.2 != v40) || (T.2.2 != v41)) || ((v40 != 0) && ((P.1.length : Int) != 0))) || ((v41 != 0) && (((T.1.length : Int) != 0) || (!(Row.eqb T.2.1 (Row.mk (Key.mk 0 0) 0 ByteArray.empty)))))) = false := by
    have h1 : ((v40 != 0) && ((P.1.length : Int) != 0)) = false := by
      by_cases h : v40 = 0
      · simp [h]
      · simp [p2 h]
    have h2 : ((v41 != 0) && (((T.1.length : Int) != 0) || (!(Row.eqb T.2.1 (Row.mk (Key.mk 0 0) 0 ByteArray.empty))))) = false := by
      by_cases h : v41 = 0
      · simp [h]
      · obtain ⟨h3, h4⟩ := t2 h
        rw [h3, h4, row_eqb]; simp
    rw [h1, h2, p1, t1]; simp
  rw [condF' c1]
  have hj2 : law05_RowChanges_j2 n l r T f v41 false = some true := by
    unfold law05_RowChanges_j2
    simp only [cond_false]
    by_cases h : v41 = 0
    · obtain ⟨h1, h2, h3⟩ := t3 h
      rw [condF' (by simpa using h), bindE h1]
      obtain ⟨y, _, g1, g2⟩ := same_ok hn (a := T.1) (b := T.1) h2
      rw [bindE g1, g2 rfl]
      simp only [cond_true]
      rw [bindE h3, row_eqb]; rfl
    · rw [condT' (by simpa using h)]; rfl
  by_cases h : v40 = 0
  · obtain ⟨h1, h2⟩ := p3 h
    rw [condT' (by simpa using h), bindE h1]
    obtain ⟨y, _, g1, g2⟩ := same_ok hn (a := P.1) (b := P.1) h2
    rw [bindE g1, g2 rfl]
    exact hj2
  · rw [condF' (by simpa using h)]; exact hj2
theorem rowChanges (s : Schema) (l : List Row) (r : Row) (_ : ok_Schema s) (_ : (∀ y ∈ l, ok_Row y) ∧ l.length ≤ maxLen) (_ : ok_Row r) : ∃ n, law05_RowChanges n s l r = some true := by
  refine ⟨300, ?_⟩
  have n1 : 150 ≤ 300 := by decide
  have n2 : 300 ≤ 1000 := by decide
  have n3 : 201 ≤ 300 := by decide
  unfold law05_RowChanges
  rw [bindE wakes_at]
  simp only [Bool.not_true, cond_false]
  obtain ⟨b, hb, ho⟩ := over_ok n1 s l
  rw [bindE hb]
  by_cases hov : (b || decide ((r.note.size : Int) > 100)) = true
  · rw [condT' hov]
  · have hbf : b = false := by cases b <;> simp_all
    obtain ⟨hs, hl⟩ := ho hbf
    rw [condF' (by simpa using hov), bindE (app_lt (by simp; omega) (by decide)), List.nil_append]
    obtain ⟨y33, _, g1, g2⟩ := same_ok n3 (a := l) (b := l) (by omega)
    obtain ⟨f, hf⟩ := find_tot (n := 300) (k := r.key) hl 300 0 (by omega) (by omega)
    have hf' : ref05_Find 300 l r.key = some f := hf
    cases hr : right s with
    | false =>
      have hc := bad_list n1 n2 hs hr l
      rw [bindE (put_bad hc (by decide)), bindE (take_bad hc (by decide)), bindE g1, g2 rfl]
      simp only [Bool.not_true, cond_false]
      rw [bindE hf', bindE (right_eq n1 n2 s hs), hr]
      simp only [Bool.not_false, cond_true]
      exact j3_ok n3 rfl (fun _ => rfl) (fun h => by cases h) rfl (fun _ => ⟨rfl, rfl⟩) (fun h => by cases h)
    | true =>
      obtain ⟨b2, k1, k2, k3⟩ := good_list n1 n2 hs hr hl
      cases b2 with
      | false =>
        have hc : row_CheckList 300 s l = some 151 := k2
        rw [bindE (put_bad hc (by decide)), bindE (take_bad hc (by decide)), bindE g1, g2 rfl]
        simp only [Bool.not_true, cond_false]
        rw [bindE hf', bindE (right_eq n1 n2 s hs), hr]
        simp only [Bool.not_true, cond_false]
        rw [bindE k1]
        simp only [Bool.not_false, cond_true]
        exact j3_ok n3 rfl (fun _ => rfl) (fun h => by cases h) rfl (fun _ => ⟨rfl, rfl⟩) (fun h => by cases h)
      | true =>
        obtain ⟨hg, h60⟩ := k3.1 rfl
        obtain ⟨A, y, B, ha⟩ := at_ex r.key hg.2
        have hlen := at_len ha
        rw [bindE (put_ok n1 n2 hs hr hg h60 ha), bindE (take_ok n1 n2 hs hr hg h60 ha), bindE g1, g2 rfl]
        simp only [Bool.not_true, cond_false]
        rw [bindE (find_ok n1 hl ha), bindE (right_eq n1 n2 s hs), hr]
        simp only [Bool.not_true, cond_false]
        rw [bindE k1]
        simp only [Bool.not_true, cond_false]
        rw [bindE (rowError_eq 300 s r)]
        have hfneg : decide ((if y.isSome then (A.length : Int) else -1) < 0) = y.isNone := by
          cases y with
          | none => rfl
          | some r0 => simp
        have hput : ∀ v88, v88 = putErr s l r y → law05_RowChanges_j4 300 s l r (if putErr s l r y = 0 then (A ++ r :: B, 0) else ([], putErr s l r y)) (match (if keyErr s r.key ≠ 0 then none else y) with | some r => (A ++ B, r, 0) | none => ([], zeroR, takeErr s r.key y)) (if y.isSome then (A.length : Int) else -1) v88 = some true := fun v88 hv => by
          subst hv
          unfold law05_RowChanges_j4
          rw [bindE (keyError_eq 300 s r.key), hfneg]
          have core : ∀ v41, v41 = takeErr s r.key y → law05_RowChanges_j3 300 l r (if putErr s l r y = 0 then (A ++ r :: B, 0) else ([], putErr s l r y)) (match (if keyErr s r.key ≠ 0 then none else y) with | some r => (A ++ B, r, 0) | none => ([], zeroR, takeErr s r.key y)) (if y.isSome then (A.length : Int) else -1) (putErr s l r y) v41 = some true := fun v41 hv => by
            subst hv
            refine j3_ok n3 ?_ (fun h => by rw [if_neg h]) (fun h => ⟨by rw [if_pos h]; exact with_ok n1 hl ha, by rw [if_pos h]; simp; omega⟩) ?_ ?_ ?_
            · by_cases h : putErr s l r y = 0
              · rw [if_pos h, h]
              · rw [if_neg h]
            · cases y with
              | none => simp
              | some r0 =>
                have := key_in ha hg
                simp [this, takeErr]
            · intro h
              cases y with
              | none => simp
              | some r0 =>
                have := key_in ha hg
                simp [this, takeErr] at h
            · intro h
              cases y with
              | none =>
                exfalso
                unfold takeErr at h
                by_cases hk : keyErr s r.key = 0
                · simp [hk] at h
                · rw [if_pos hk] at h; exact hk h
              | some r0 =>
                have := key_in ha hg
                simp only [this, ne_eq, not_true_eq_false, if_false, Option.isSome_some, if_true]
                exact ⟨without_ok n1 hl ha, by simp at hlen ⊢; omega, at_idx ha⟩
          by_cases hk : keyErr s r.key = 0
          · cases y with
            | none =>
              rw [condT' (by simp [hk])]
              exact core _ (by simp [takeErr, hk])
            | some r0 =>
              rw [condF' (by simp)]
              exact core _ (by simp [takeErr, hk])
          · rw [condF' (by simp [hk])]
            exact core _ (by simp [takeErr, hk])
        rw [hfneg]
        by_cases he : rowErr s r = 0
        · by_cases hc : y = none ∧ l.length = 60
          · rw [condT' (by obtain ⟨hc1, hc2⟩ := hc; subst hc1; simp [he, hc2])]
            exact hput _ (by simp [putErr, he, hc])
          · rw [condF' (by
              cases y with
              | none =>
                have : l.length ≠ 60 := fun h => hc ⟨rfl, h⟩
                simp; omega
              | some r0 => simp)]
            exact hput _ (by unfold putErr; rw [if_neg (by simp [he]), if_neg hc, he])
        · rw [condF' (by simp [he])]
          exact hput _ (by unfold putErr; rw [if_pos he])

/-! ### RowBack -/
theorem row_find {n : Nat} (hn : 150 ≤ n) {l : List Row} (hl : l.length ≤ 100) {k : Key} {A B : List Row} {r : Row} (h : At l k A (some r) B) : row_Find n l k = some ((A.length : Int), true) := by
  unfold row_Find slices_IndexFunc_Row
  rw [find_eq, bindE (show ref05_Find_l1 n l k n 0 = some _ from find_ok hn hl h)]
  simp only [Option.isSome_some, if_true]
  rw [if_neg (by omega)]
  simp
theorem back_l1 {n : Nat} (hn : 201 ≤ n) (hn' : n ≤ 1000) {s : Schema} (hs : s.tables.length ≤ 20) (hr : right s = true) {q : List Row} (hq : q.length ≤ 100) : ∀ (m : Nat) (l : List Row) (i : Nat), good s l → l.length ≤ 60 → i ≤ q.length → q.length < m + i → law05_RowBack_l1 n s q m l (i : Int) = some true
  | 0, l, i, _, _, h0, h => by omega
  | m + 1, l, i, hg, hl, h0, h => by
    have hn1 : 150 ≤ n := by omega
    unfold law05_RowBack_l1
    by_cases hi : i < q.length
    · rw [condT' (lt_dec hi), idx_nat, get_some hi]
      simp only [Option.bind_some]
      by_cases h20 : i = 20
      · rw [condT' (by simp [h20])]
      · rw [condF' (by simp; omega)]
        obtain ⟨A, y, B, ha⟩ := at_ex q[i].key hg.2
        have hlen := at_len ha
        rw [bindE (put_ok hn1 hn' hs hr hg hl ha)]
        have next : ∀ l', good s l' → l'.length ≤ 60 → law05_RowBack_l1 n s q m l' (IntKind.wrap .i64 ((i : Int) + 1)) = some true := fun l' hg' hl' => by
          rw [wrap_succ (by omega)]
          exact back_l1 hn hn' hs hr hq m l' (i + 1) hg' hl' (by omega) (by omega)
        by_cases he : putErr s l q[i] y = 0
        · rw [if_pos he]
          have hre : rowErr s q[i] = 0 := by
            unfold putErr at he
            by_cases h : rowErr s q[i] = 0
            · exact h
            · rw [if_pos h] at he; exact absurd he h
          have hful : y = none → l.length ≠ 60 := fun hy h => by
            unfold putErr at he
            rw [if_neg (by simp [hre]), if_pos ⟨hy, h⟩] at he; cases he
          have hg2 := good_more ha hg hre
          have ha2 := at_more ha
          have hl2 : (A ++ q[i] :: B).length ≤ 60 := by
            simp
            cases y with
            | none => have := hful rfl; simp at hlen; omega
            | some r0 => simp at hlen; omega
          simp only [bne_self_eq_false, cond_false]
          rw [bindE (row_find hn1 (by omega) ha2), bindE (good_check hn1 hn' hs hr hg2 hl2)]
          simp only [bne_self_eq_false, cond_false, Bool.not_true]
          rw [bindE (at_idx ha2), row_eqb]
          unfold law05_RowBack_j5
          simp only [Bool.not_true, cond_false]
          have hk0 := key_in ha2 hg2
          rw [bindE (take_ok hn1 hn' hs hr hg2 hl2 ha2)]
          simp only [hk0, ne_eq, not_true_eq_false, if_false, bne_self_eq_false, row_eqb, Bool.not_true, Bool.or_false, cond_false]
          rw [bindE (take_ok hn1 hn' hs hr hg hl ha)]
          simp only [hk0, ne_eq, not_true_eq_false, if_false]
          have hj2 : law05_RowBack_j2 n (i : Int) (A ++ q[i] :: B, 0) (law05_RowBack_l1 n s q m) = some true := next _ hg2 hl2
          cases y with
          | none =>
            have hAB : A ++ B = l := by have := ha.eq; simp at this; exact this.symm
            have e4 : takeErr s q[i].key none = 4 := by simp [takeErr, hk0]
            simp only [e4, beq_self_eq_true, cond_true]
            obtain ⟨z, g1, _, g2⟩ := same_ok hn (a := A ++ B) (b := l) (by rw [hAB]; omega)
            rw [bindE g1, g2 hAB]
            exact hj2
          | some r0 =>
            simp only []
            rw [condF' (by decide)]
            have hr0 : r0.key = q[i].key := ha.mid r0 rfl
            have hre0 : rowErr s r0 = 0 := hg.1 r0 (by rw [ha.eq]; simp)
            have ha3 : At (A ++ B) r0.key A none B := by rw [hr0]; exact at_less ha
            have hg3 := good_less ha hg
            have hl3 : (A ++ B).length ≤ 60 := by simp at hlen ⊢; omega
            have hp : putErr s (A ++ B) r0 none = 0 := by
              unfold putErr
              rw [if_neg (by simp [hre0]), if_neg (by simp at hlen ⊢; omega)]
            have hback : A ++ r0 :: B = l := by have := ha.eq; simp at this; exact this.symm
            rw [bindE (put_ok hn1 hn' hs hr hg3 hl3 ha3), if_pos hp]
            simp only [bne_self_eq_false, Bool.or_false, cond_false]
            obtain ⟨z, g1, _, g2⟩ := same_ok hn (a := A ++ B) (b := A ++ B) (by omega)
            rw [bindE g1, g2 rfl]
            unfold law05_RowBack_j4
            simp only [Bool.not_true, cond_false]
            obtain ⟨z2, g3, _, g4⟩ := same_ok hn (a := A ++ r0 :: B) (b := l) (by rw [hback]; omega)
            rw [bindE g3, g4 hback]
            exact hj2
        · rw [if_neg he, condT' (by simpa using he)]
          exact next l hg hl
    · rw [condF' (ge_dec hi)]
theorem rowBack (s : Schema) (l q : List Row) (_ : ok_Schema s) (_ : (∀ y ∈ l, ok_Row y) ∧ l.length ≤ maxLen) (_ : (∀ y ∈ q, ok_Row y) ∧ q.length ≤ maxLen) : ∃ n, law05_RowBack n s l q = some true := by
  refine ⟨300, ?_⟩
  have n1 : 150 ≤ 300 := by decide
  have n2 : 300 ≤ 1000 := by decide
  unfold law05_RowBack
  rw [bindE wakes_at]
  simp only [Bool.not_true, cond_false]
  obtain ⟨b, hb, ho⟩ := over_ok n1 s l
  rw [bindE hb]
  cases b with
  | true => rfl
  | false =>
    obtain ⟨hs, hl⟩ := ho rfl
    obtain ⟨b, hb, ho2⟩ := over_ok n1 s q
    simp only [cond_false]
    rw [bindE hb]
    cases b with
    | true => rfl
    | false =>
      obtain ⟨_, hq⟩ := ho2 rfl
      unfold law05_RowBack_j7
      simp only [cond_false]
      cases hr : right s with
      | false =>
        rw [bindE (bad_list n1 n2 hs hr l)]; rfl
      | true =>
        obtain ⟨b2, k1, k2, k3⟩ := good_list n1 n2 hs hr hl
        rw [bindE k2]
        cases b2 with
        | false => rfl
        | true =>
          obtain ⟨hg, h60⟩ := k3.1 rfl
          unfold law05_RowBack_j6
          simp only [if_true, bne_self_eq_false, cond_false]
          exact back_l1 (by decide) n2 hs hr hq 300 l 0 hg h60 (by omega) (by omega)
end Go.Proofs.Ytlflbhhajnoelaa
