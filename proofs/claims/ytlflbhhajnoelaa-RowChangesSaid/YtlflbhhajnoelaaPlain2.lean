/- The plain laws of layer 5, second part: RowTells, RowFinds, RowTables. -/
import Derived.Test.YtlflbhhajnoelaaPlain
import Derived.Test.YtlflbhhajnoelaaF7
namespace Go.Proofs.Ytlflbhhajnoelaa
open Go.Bur
set_option linter.unusedSimpArgs false
set_option linter.unusedVariables false
set_option maxRecDepth 100000

theorem inI64 {x : Int} (h : inI .i64 x) : -9223372036854775808 ≤ x ∧ x ≤ 9223372036854775807 := h
theorem inI64' {x : Int} (h : -9223372036854775808 ≤ x ∧ x ≤ 9223372036854775807) : inI .i64 x := h
theorem inU16 {x : Int} (h : inI .u16 x) : 0 ≤ x ∧ x ≤ 65535 := h
theorem over_l1 {n : Nat} {l : List Row} (hl : l.length ≤ 100) : ∀ (m i : Nat), i ≤ l.length → l.length < m + i → ∃ b, law05_over_l1 n l m (i : Int) = some b
  | 0, i, h0, h => by omega
  | m + 1, i, h0, h => by
    unfold law05_over_l1
    by_cases hi : i < l.length
    · rw [condT' (lt_dec hi), idx_nat, get_some hi]
      simp only [Option.bind_some]
      cases decide ((l[i].note.size : Int) > 100) with
      | true => exact ⟨true, rfl⟩
      | false =>
        rw [wrap_succ (by omega)]
        exact over_l1 hl m (i + 1) (by omega) (by omega)
    · rw [condF' (ge_dec hi)]; exact ⟨false, rfl⟩
theorem over_ok {n : Nat} (hn : 150 ≤ n) (s : Schema) (l : List Row) : ∃ b, law05_over n s l = some b ∧ (b = false → s.tables.length ≤ 20 ∧ l.length ≤ 100) := by
  unfold law05_over
  by_cases h : s.tables.length ≤ 20 ∧ l.length ≤ 100
  · rw [condF' (by simp; omega)]
    obtain ⟨b, hb⟩ := over_l1 (n := n) h.2 n 0 (by omega) (by omega)
    exact ⟨b, hb, fun _ => h⟩
  · rw [condT' (by simp; omega)]
    exact ⟨true, rfl, fun h => by cases h⟩

/-! ### Schemas, keys, rows -/
def right (s : Schema) : Bool := decide (1 ≤ s.tables.length ∧ s.tables.length ≤ 3) && !s.tables.any (fun b => decide (b.min > b.max))
theorem indexB {n : Nat} {l : List Bounds} (hl : l.length ≤ 20) : ∀ (m i : Nat), i ≤ l.length → l.length < m + i → ∃ y, slices_IndexFunc_Bounds_l1 n l (fun x => row_Check_1 n x) m (i : Int) = some y ∧ decide (y ≥ 0) = (l.drop i).any (fun b => decide (b.min > b.max))
  | 0, i, h0, h => by omega
  | m + 1, i, h0, h => by
    unfold slices_IndexFunc_Bounds_l1
    by_cases hi : i < l.length
    · rw [condT' (lt_dec hi), idx_nat, get_some hi, drop_cons hi]
      simp only [Option.bind_some, row_Check_1, List.any_cons]
      by_cases hb : l[i].min > l[i].max
      · refine ⟨(i : Int), ?_, ?_⟩
        · rw [condT' (by simpa using hb)]
        · simp [hb]
      · rw [condF' (by simpa using hb), wrap_succ (by omega)]
        obtain ⟨y, h1, h2⟩ := indexB hl m (i + 1) (by omega) (by omega)
        exact ⟨y, h1, by rw [h2]; simp [hb]⟩
    · rw [condF' (ge_dec hi), drop_nil hi]; exact ⟨-1, rfl, rfl⟩
theorem check_eq {n : Nat} (hn : 150 ≤ n) (hn' : n ≤ 1000) (s : Schema) (hs : s.tables.length ≤ 20) : row_Check n s = some (if right s then 0 else 150) := by
  unfold row_Check
  by_cases h : 1 ≤ s.tables.length ∧ s.tables.length ≤ 3
  · rw [condF' (by simp; omega)]
    unfold slices_ContainsFunc_Bounds slices_IndexFunc_Bounds
    obtain ⟨y, h1, h2⟩ := indexB (n := n) hs n 0 (by omega) (by omega)
    rw [show (0 : Int) = ((0 : Nat) : Int) from rfl, h1]
    have h2' : decide (y ≥ 0) = s.tables.any (fun b => decide (b.min > b.max)) := h2
    simp only [Option.bind_some, row_Check_j1]
    rw [show decide (y ≥ ((0 : Nat) : Int)) = _ from h2']
    unfold right
    rw [decide_eq_true h]
    cases s.tables.any (fun b => decide (b.min > b.max)) <;> rfl
  · rw [condT' (by simp; omega)]
    simp [row_Check_j1, right, h]
theorem right_l1 {n : Nat} {s : Schema} (hs : s.tables.length ≤ 20) : ∀ (m i : Nat), i ≤ s.tables.length → s.tables.length < m + i → ref05_Right_l1 n s m (i : Int) = some (!(s.tables.drop i).any (fun b => decide (b.min > b.max)))
  | 0, i, h0, h => by omega
  | m + 1, i, h0, h => by
    unfold ref05_Right_l1
    by_cases hi : i < s.tables.length
    · rw [condT' (lt_dec hi), idx_nat, get_some hi, drop_cons hi]
      simp only [Option.bind_some, List.any_cons]
      by_cases hb : s.tables[i].min > s.tables[i].max
      · rw [condT' (by simpa using hb)]; simp [hb]
      · rw [condF' (by simpa using hb), wrap_succ (by omega), right_l1 hs m (i + 1) (by omega) (by omega)]
        simp [hb]
    · rw [condF' (ge_dec hi), drop_nil hi]; rfl
theorem right_eq {n : Nat} (hn : 150 ≤ n) (hn' : n ≤ 1000) (s : Schema) (hs : s.tables.length ≤ 20) : ref05_Right n s = some (right s) := by
  unfold ref05_Right
  by_cases h : 1 ≤ s.tables.length ∧ s.tables.length ≤ 3
  · rw [condF' (by simp; omega), show (0 : Int) = ((0 : Nat) : Int) from rfl, right_l1 (n := n) hs n 0 (by omega) (by omega)]
    simp [right, h]
  · rw [condT' (by simp; omega)]
    simp [right, h]
theorem all1 {n : Nat} (hn : 3 ≤ n) (a : row_rule) : row_all n [a] = some (cond a.is 0 a.no) := by
  obtain ⟨n, rfl⟩ : ∃ m, n = m + 3 := ⟨n - 3, by omega⟩
  unfold row_all row_all_l1 row_all_l1
  cases h : a.is <;> simp [idx, IntKind.wrap_i64, h]
theorem all2 {n : Nat} (hn : 4 ≤ n) (a b : row_rule) : row_all n [a, b] = some (cond a.is (cond b.is 0 b.no) a.no) := by
  obtain ⟨n, rfl⟩ : ∃ m, n = m + 4 := ⟨n - 4, by omega⟩
  unfold row_all row_all_l1 row_all_l1 row_all_l1
  cases h : a.is <;> cases h' : b.is <;> simp [idx, IntKind.wrap_i64, h, h']
def keyErr (s : Schema) (k : Key) : Int := if 0 ≤ k.table ∧ k.table < s.tables.length then 0 else 151
theorem keyError_eq (n : Nat) (s : Schema) (k : Key) : ref05_KeyError n s k = some (keyErr s k) := by
  unfold ref05_KeyError keyErr
  by_cases h : 0 ≤ k.table ∧ k.table < s.tables.length
  · rw [condF' (by simp; omega), if_pos h]
  · rw [condT' (by simp; omega), if_neg h]
theorem checkKey_eq {n : Nat} (hn : 150 ≤ n) (hn' : n ≤ 1000) (s : Schema) (hs : s.tables.length ≤ 20) (k : Key) : row_CheckKey n s k = some (if right s then keyErr s k else 150) := by
  unfold row_CheckKey
  rw [bindE (check_eq hn hn' s hs)]
  cases h : right s with
  | false => rfl
  | true =>
    simp only [if_true, bne_self_eq_false, cond_false, row_known, Option.bind_some, all1 (show 3 ≤ n by omega)]
    unfold keyErr
    by_cases h : 0 ≤ k.table ∧ k.table < s.tables.length
    · rw [if_pos h, condT' (by simp; omega)]
    · rw [if_neg h, condF' (by simp; omega)]
theorem idx_int {α : Type} {l : List α} {i : Int} (h : 0 ≤ i ∧ i < l.length) : ∃ x, idx l i = some x := by
  obtain ⟨k, rfl⟩ := Int.eq_ofNat_of_zero_le h.1
  exact ⟨_, (idx_nat l k).trans (get_some (by omega))⟩
theorem keyErr_ne (s : Schema) (k : Key) : (keyErr s k != 0) = !decide (0 ≤ k.table ∧ k.table < s.tables.length) := by
  unfold keyErr
  by_cases h : 0 ≤ k.table ∧ k.table < s.tables.length
  · rw [if_pos h, decide_eq_true h]; rfl
  · rw [if_neg h, decide_eq_false h]; rfl
def rowErr (s : Schema) (r : Row) : Int :=
  if 0 ≤ r.key.table ∧ r.key.table < s.tables.length then
    (if (r.note.size : Int) > 8 then 3 else
      match idx s.tables r.key.table with
      | some x => if r.val < x.min ∨ r.val > x.max then 152 else 0
      | none => 0)
  else 151
theorem rowError_eq (n : Nat) (s : Schema) (r : Row) : ref05_RowError n s r = some (rowErr s r) := by
  unfold ref05_RowError rowErr
  rw [bindE (keyError_eq n s r.key), keyErr_ne]
  by_cases h : 0 ≤ r.key.table ∧ r.key.table < s.tables.length
  · rw [decide_eq_true h, if_pos h]
    obtain ⟨x, hx⟩ := idx_int h
    simp only [Bool.not_true, cond_false, hx, Option.bind_some]
    by_cases h1 : (r.note.size : Int) > 8
    · rw [condT' (by simpa using h1), if_pos h1]
    · rw [condF' (by simpa using h1), if_neg h1]
      unfold ref05_RowError_j1
      by_cases h2 : r.val < x.min
      · rw [condT' (by simpa using h2), if_pos (Or.inl h2)]; rfl
      · rw [condF' (by simpa using h2)]
        by_cases h3 : r.val > x.max
        · rw [condT' (by simpa using h3), if_pos (Or.inr h3)]
        · rw [condF' (by simpa using h3), if_neg (by omega)]
  · rw [decide_eq_false h, if_neg h]; rfl
theorem rowErr_key {s : Schema} {r : Row} (h : rowErr s r = 0) : keyErr s r.key = 0 := by
  unfold rowErr at h
  unfold keyErr
  by_cases hk : 0 ≤ r.key.table ∧ r.key.table < s.tables.length
  · exact if_pos hk
  · rw [if_neg hk] at h; cases h
theorem checkRow_eq {n : Nat} (hn : 150 ≤ n) (hn' : n ≤ 1000) (s : Schema) (hs : s.tables.length ≤ 20) (r : Row) : row_CheckRow n s r = some (if right s then rowErr s r else 150) := by
  unfold row_CheckRow
  rw [bindE (checkKey_eq hn hn' s hs r.key)]
  cases hr : right s with
  | false => rfl
  | true =>
    simp only [if_true, keyErr_ne]
    unfold rowErr
    by_cases h : 0 ≤ r.key.table ∧ r.key.table < s.tables.length
    · rw [decide_eq_true h, if_pos h]
      obtain ⟨x, hx⟩ := idx_int h
      simp only [Bool.not_true, cond_false, hx, Option.bind_some, all2 (show 4 ≤ n by omega)]
      by_cases h1 : (r.note.size : Int) > 8
      · rw [condF' (by simp; omega), if_pos h1]
      · rw [condT' (b := decide ((r.note.size : Int) ≤ 8)) (by simp; omega), if_neg h1]
        by_cases h2 : r.val < x.min ∨ r.val > x.max
        · rw [condF' (by simp; omega), if_pos h2]
        · rw [condT' (by simp; omega), if_neg h2]
    · rw [decide_eq_false h, if_neg h]
      simp only [keyErr, if_neg h]; rfl

/-! ### Lists of rows -/
def srt (s : Schema) : Option Key → List Row → Prop
  | _, [] => True
  | p, r :: t => keyErr s r.key = 0 ∧ (∀ k, p = some k → cmpK k r.key < 0) ∧ srt s (some r.key) t
theorem list_l1 {n : Nat} (hn : 150 ≤ n) (hn' : n ≤ 1000) (s : Schema) (hs : s.tables.length ≤ 20) (hr : right s = true) {l : List Row} (hl : l.length ≤ 100) : ∀ (m i : Nat), i ≤ l.length → l.length < m + i →
    ∃ b, ref05_RightList_l1 n s l m (i : Int) = some b ∧ row_CheckList_l1 n s l m (i : Int) = some (if b ∧ l.length ≤ 60 then 0 else 151) ∧ (b = true → ∀ p, (∀ k, p = some k → ∃ j y, i = j + 1 ∧ l[j]? = some y ∧ y.key = k) → srt s p (l.drop i))
  | 0, i, h0, h => by omega
  | m + 1, i, h0, h => by
    unfold ref05_RightList_l1 row_CheckList_l1
    by_cases hi : i < l.length
    · rw [condT' (lt_dec hi), condT' (lt_dec hi), idx_nat, get_some hi, drop_cons hi]
      have h2 := checkRow_eq hn hn' s hs l[i]
      rw [if_pos hr] at h2
      simp only [Option.bind_some, rowError_eq, h2]
      by_cases he : rowErr s l[i] = 0
      · have h3 := fun _ : (0 : Int) = 0 => rowErr_key he
        simp only [he, bne_self_eq_false, cond_false]
        obtain ⟨b, k1, k2, k3⟩ := list_l1 hn hn' s hs hr hl m (i + 1) (by omega) (by omega)
        rcases i with _ | i
        · refine ⟨b, ?_, ?_, fun hb p hp => ⟨h3 rfl, fun k hk => ?_, k3 hb _ fun k hk => ?_⟩⟩
          · rw [condF' (by simp)]
            simp only [ref05_RightList_j1, cond_false]
            rw [wrap_succ (by omega)]; exact k1
          · rw [condF' (by simp)]
            simp only [row_CheckList_j1, cond_false]
            rw [wrap_succ (by omega)]; exact k2
          · obtain ⟨j, y, hj, _⟩ := hp k hk; omega
          · cases hk; exact ⟨0, _, rfl, get_some hi, rfl⟩
        · have hc : cmpK l[i].key l[i+1].key ≥ 0 ∨ cmpK l[i].key l[i+1].key < 0 := by omega
          rw [condT' (by simp), condT' (by simp), wrap_pred (by omega), idx_nat, get_some (by omega)]
          simp only [Option.bind_some, compare_eq n (show 3 ≤ n by omega), ref_compare]
          by_cases hc : cmpK l[i].key l[i+1].key ≥ 0
          · refine ⟨false, ?_, ?_, fun hb => by cases hb⟩
            · simp only [ref05_RightList_j1, hc, decide_true, cond_true]
            · simp only [row_CheckList_j1, hc, decide_true, cond_true]; simp
          · refine ⟨b, ?_, ?_, fun hb p hp => ⟨h3 rfl, fun k hk => ?_, k3 hb _ fun k hk => ?_⟩⟩
            · simp only [ref05_RightList_j1, hc, decide_false, cond_false]
              rw [wrap_succ (by omega)]; exact k1
            · simp only [row_CheckList_j1, hc, decide_false, cond_false]
              rw [wrap_succ (by omega)]; exact k2
            · obtain ⟨j, y, hj, hy, rfl⟩ := hp k hk
              obtain rfl : i = j := by omega
              rw [get_some (by omega)] at hy
              cases hy; omega
            · cases hk; exact ⟨i + 1, _, rfl, get_some hi, rfl⟩
      · rw [condT' (by simpa using he), condT' (by simpa using he)]
        exact ⟨false, rfl, by simp [row_CheckList_j1], fun hb => by cases hb⟩
    · rw [condF' (ge_dec hi), condF' (ge_dec hi), all1 (by omega), drop_nil hi]
      refine ⟨true, rfl, ?_, fun _ _ _ => trivial⟩
      by_cases h60 : l.length ≤ 60
      · rw [condT' (by simp; omega), if_pos ⟨rfl, h60⟩]; rfl
      · rw [condF' (by simp; omega), if_neg (fun h => h60 h.2)]; rfl
theorem list_eq {n : Nat} (hn : 150 ≤ n) (hn' : n ≤ 1000) (s : Schema) (hs : s.tables.length ≤ 20) {l : List Row} (hl : l.length ≤ 100) :
    ∃ e, row_CheckList n s l = some e ∧ (right s = false → e = 150) ∧ (right s = true → ∃ b, ref05_RightList n s l = some b ∧ e = (if b then 0 else 151) ∧ (b = true → srt s none l)) := by
  unfold row_CheckList
  rw [bindE (check_eq hn hn' s hs)]
  cases hr : right s with
  | false => exact ⟨150, rfl, fun _ => rfl, fun h => by cases h⟩
  | true =>
    obtain ⟨b, h1, h2, h3⟩ := list_l1 hn hn' s hs hr hl n 0 (by omega) (by omega)
    refine ⟨_, h2, (fun h => by cases h), fun _ => ?_⟩
    unfold ref05_RightList
    by_cases h60 : l.length ≤ 60
    · rw [condF' (by simp; omega)]
      exact ⟨b, h1, by simp [h60], fun hb => h3 hb none fun k hk => by cases hk⟩
    · rw [condT' (by simp; omega)]
      exact ⟨false, rfl, by simp [h60], fun hb => by cases hb⟩

/-! ### RowTells -/
theorem tells_l1 {n : Nat} (hn : 150 ≤ n) (hn' : n ≤ 1000) (s : Schema) (hs : s.tables.length ≤ 20) (hr : right s = true) {l : List Row} (hl : l.length ≤ 100) : ∀ (m i : Nat), i ≤ l.length → l.length < m + i → law05_RowTells_l1 n s l m (i : Int) = some true
  | 0, i, h0, h => by omega
  | m + 1, i, h0, h => by
    unfold law05_RowTells_l1
    by_cases hi : i < l.length
    · rw [condT' (lt_dec hi), idx_nat, get_some hi]
      have h2 := checkRow_eq hn hn' s hs l[i]
      rw [if_pos hr] at h2
      simp only [Option.bind_some, rowError_eq, h2, bne_self_eq_false, cond_false]
      rw [wrap_succ (by omega)]
      exact tells_l1 hn hn' s hs hr hl m (i + 1) (by omega) (by omega)
    · rw [condF' (ge_dec hi)]
theorem rowTells (s : Schema) (l : List Row) (k : Key) (_ : ok_Schema s) (_ : (∀ y ∈ l, ok_Row y) ∧ l.length ≤ maxLen) (_ : ok_Key k) : ∃ n, law05_RowTells n s l k = some true := by
  refine ⟨200, ?_⟩
  unfold law05_RowTells
  rw [bindE wakes_true]
  simp only [Bool.not_true, cond_false]
  obtain ⟨b, hb, ho⟩ := over_ok (show 150 ≤ 200 by decide) s l
  rw [bindE hb]
  cases b with
  | true => rfl
  | false =>
    obtain ⟨hs, hl⟩ := ho rfl
    have n1 : 150 ≤ 200 := by decide
    have n2 : 200 ≤ 1000 := by decide
    obtain ⟨e, he, f1, f2⟩ := list_eq n1 n2 s hs hl
    rw [bindE (check_eq n1 n2 s hs), bindE (checkKey_eq n1 n2 s hs k), bindE he, bindE (right_eq n1 n2 s hs)]
    simp only [cond_false]
    cases hr : right s with
    | false =>
      rw [f1 hr]
      have h2 := checkRow_eq n1 n2 s hs (Row.mk (Key.mk k.table k.id) 0 ByteArray.empty)
      rw [hr, if_neg (by decide)] at h2
      simp only [Bool.not_false, cond_true, h2, Option.bind_some, law05_RowTells_j1]
      rfl
    | true =>
      obtain ⟨b, g1, g2, _⟩ := f2 hr
      simp only [if_true, Bool.not_true, cond_false, bne_self_eq_false, keyError_eq, Option.bind_some, law05_RowTells_j3, g1, law05_RowTells_j2]
      rw [condF' (by rw [g2]; cases b <;> rfl)]
      exact tells_l1 n1 n2 s hs hr hl 200 0 (by omega) (by omega)

/-! ### RowFinds -/
theorem find_eq {n : Nat} {l : List Row} {k : Key} : ∀ (m : Nat) (i : Int), slices_IndexFunc_Row_l1 n l (fun x => row_Find_1 n x k) m i = ref05_Find_l1 n l k m i
  | 0, i => rfl
  | m + 1, i => by
    unfold slices_IndexFunc_Row_l1 ref05_Find_l1
    rw [find_eq m]
    rfl
theorem find_tot {n : Nat} {l : List Row} {k : Key} (hl : l.length ≤ 100) : ∀ (m i : Nat), i ≤ l.length → l.length < m + i → ∃ y, ref05_Find_l1 n l k m (i : Int) = some y
  | 0, i, h0, h => by omega
  | m + 1, i, h0, h => by
    unfold ref05_Find_l1
    by_cases hi : i < l.length
    · rw [condT' (lt_dec hi), idx_nat, get_some hi]
      simp only [Option.bind_some]
      cases Key.eqb l[i].key k with
      | true => exact ⟨_, rfl⟩
      | false => rw [wrap_succ (by omega)]; exact find_tot hl m (i + 1) (by omega) (by omega)
    · rw [condF' (ge_dec hi)]; exact ⟨_, rfl⟩
theorem of_eq {n : Nat} {l : List Row} {t : Int} : ∀ (m : Nat) (a : List Row) (i : Int), row_Of_l1 n l t m a i = ref05_Of_l1 n l t m a i
  | 0, a, i => rfl
  | m + 1, a, i => by
    unfold row_Of_l1 ref05_Of_l1 row_Of_j1 ref05_Of_j1
    cases h : idx l i with
    | none => rfl
    | some x => simp only [Option.bind_some, of_eq m]
theorem of_tot {n : Nat} {l : List Row} {t : Int} (hl : l.length ≤ 100) : ∀ (m : Nat) (a : List Row) (i : Nat), i ≤ l.length → l.length < m + i → a.length ≤ i → row_Of_l1 n l t m a (i : Int) = some (a ++ (l.drop i).filter (fun r => r.key.table == t))
  | 0, a, i, h0, h, _ => by omega
  | m + 1, a, i, h0, h, ha => by
    unfold row_Of_l1
    by_cases hi : i < l.length
    · rw [condT' (lt_dec hi), idx_nat, get_some hi, drop_cons hi]
      simp only [Option.bind_some, row_Of_j1, List.filter_cons]
      rw [wrap_succ (by omega)]
      cases hk : l[i].key.table == t with
      | true =>
        rw [app_lt (by simp; omega) (by decide)]
        simp only [cond_true, Option.bind_some, if_true]
        rw [of_tot hl m _ (i + 1) (by omega) (by omega) (by simp; omega), List.append_assoc]; rfl
      | false =>
        simp only [cond_false, Bool.false_eq_true, if_false]
        exact of_tot hl m _ (i + 1) (by omega) (by omega) (by omega)
    · rw [condF' (ge_dec hi), drop_nil hi]; simp
theorem same_eq {n : Nat} {a b : List Row} : ∀ (m : Nat) (i : Int), slices_Equal_Row_l1 n a b m i = ref05_Same_l1 n a b m i
  | 0, i => rfl
  | m + 1, i => by
    unfold slices_Equal_Row_l1 ref05_Same_l1
    simp only [same_eq m]
theorem row_eqb (x : Row) : Row.eqb x x = true := by simp [Row.eqb]
theorem same_tot {n : Nat} {a b : List Row} (hl : a.length ≤ 200) (hb : a.length = b.length) : ∀ (m i : Nat), i ≤ a.length → a.length < m + i → ∃ y, ref05_Same_l1 n a b m (i : Int) = some y ∧ (a = b → y = true)
  | 0, i, h0, h => by omega
  | m + 1, i, h0, h => by
    unfold ref05_Same_l1
    by_cases hi : i < a.length
    · rw [condT' (lt_dec hi), idx_nat, get_some hi, idx_nat, get_some (by omega)]
      simp only [Option.bind_some]
      cases he : Row.eqb a[i] (b[i]'(by omega)) with
      | true =>
        simp only [Bool.not_true, cond_false]
        rw [wrap_succ (by omega)]; exact same_tot hl hb m (i + 1) (by omega) (by omega)
      | false =>
        refine ⟨false, rfl, fun h => ?_⟩
        subst h
        rw [row_eqb] at he; cases he
    · rw [condF' (ge_dec hi)]; exact ⟨_, rfl, fun _ => rfl⟩
theorem same_ok {n : Nat} (hn : 201 ≤ n) {a b : List Row} (ha : a.length ≤ 200) : ∃ y, row_Same n a b = some y ∧ ref05_Same n a b = some y ∧ (a = b → y = true) := by
  unfold row_Same slices_Equal_Row ref05_Same
  by_cases h : a.length = b.length
  · obtain ⟨y, h1, h2⟩ := same_tot (n := n) ha h n 0 (by omega) (by omega)
    have e : ((a.length : Int) != (b.length : Int)) = false := by rw [h]; simp
    rw [condF' e, condF' e, same_eq, show (0 : Int) = ((0 : Nat) : Int) from rfl, h1]
    exact ⟨y, rfl, rfl, h2⟩
  · have e : ((a.length : Int) != (b.length : Int)) = true := by simp; omega
    rw [condT' e, condT' e]
    exact ⟨false, rfl, rfl, fun h' => absurd (by rw [h']) h⟩
theorem plus_eq (n : Nat) {a b : Int} (ha : inI .i64 a) (hb : inI .i64 b) : ∃ v c, row_Plus n a b = some (v, c) ∧ ref05_Plus n a b = some (v, c) := by
  obtain ⟨a1, a2⟩ := inI64 ha
  obtain ⟨b1, b2⟩ := inI64 hb
  unfold row_Plus ref05_Plus
  rw [wrap_in (x := 0 - 9223372036854775807) (by omega), wrap_in (x := 0 - 9223372036854775807 - 1) (by omega)]
  by_cases hz : b > 0
  · rw [wrap_in (x := 9223372036854775807 - b) (by omega)]
    by_cases ho : a > 9223372036854775807 - b
    · rw [condT' (b := _ || _) (by simp; omega), condT' (by rw [IntKind.wrap_i64]; simp; omega)]
      exact ⟨_, _, rfl, rfl⟩
    · rw [condF' (b := _ || _) (by simp; omega), condF' (by rw [IntKind.wrap_i64]; simp; omega)]
      exact ⟨_, _, rfl, rfl⟩
  · by_cases hz' : b < 0
    · rw [wrap_in (x := 0 - 9223372036854775807 - 1 - b) (by omega)]
      by_cases ho : a < 0 - 9223372036854775807 - 1 - b
      · rw [condT' (b := _ || _) (by simp; omega), condT' (by rw [IntKind.wrap_i64]; simp; omega)]
        exact ⟨_, _, rfl, rfl⟩
      · rw [condF' (b := _ || _) (by simp; omega), condF' (by rw [IntKind.wrap_i64]; simp; omega)]
        exact ⟨_, _, rfl, rfl⟩
    · rw [condF' (b := _ || _) (by simp; omega), condF' (by simp; omega)]
      exact ⟨_, _, rfl, rfl⟩
theorem finds_l2 {n : Nat} {q : List Row} (hq : q.length ≤ 100) (oq : ∀ y ∈ q, ok_Row y) {v : Int} {x : Row} (ox : ok_Row x) {k : Int → Option Bool} : ∀ (m i : Nat), i ≤ q.length → q.length < m + i → law05_RowFinds_l2 n q v x k m (i : Int) = k (IntKind.wrap .i64 (v + 1))
  | 0, i, h0, h => by omega
  | m + 1, i, h0, h => by
    unfold law05_RowFinds_l2
    by_cases hi : i < q.length
    · rw [condT' (lt_dec hi), idx_nat, get_some hi]
      obtain ⟨a, c, e1, e2⟩ := plus_eq n ox.2.1 (oq _ (List.getElem_mem hi)).2.1
      simp only [Option.bind_some, e1, e2, bne_self_eq_false, beq_self_eq_true, Bool.not_true, Bool.or_false, cond_false]
      rw [wrap_succ (by omega)]
      exact finds_l2 hq oq ox m (i + 1) (by omega) (by omega)
    · rw [condF' (ge_dec hi)]
theorem finds_l1 {n : Nat} (hn : 150 ≤ n) {l q : List Row} (hl : l.length ≤ 100) (ol : ∀ y ∈ l, ok_Row y) (hq : q.length ≤ 100) (oq : ∀ y ∈ q, ok_Row y) {k : Key} (hk : ok_Key k) : ∀ (m i : Nat), i ≤ l.length → l.length < m + i → law05_RowFinds_l1 n l q k m (i : Int) = some true
  | 0, i, h0, h => by omega
  | m + 1, i, h0, h => by
    unfold law05_RowFinds_l1
    by_cases hi : i < l.length
    · rw [condT' (lt_dec hi), idx_nat, get_some hi]
      obtain ⟨k1, k2⟩ := inU16 hk.2
      rw [wrap_in (x := k.id) (by omega), wrap_in (x := k.id - 500) (by omega)]
      have ox := ol _ (List.getElem_mem hi)
      obtain ⟨a, c, e1, e2⟩ := plus_eq n (b := k.id - 500) ox.2.1 (inI64' (by omega))
      simp only [Option.bind_some, e1, e2, compare_eq n (show 3 ≤ n by omega), ref_compare, bne_self_eq_false, beq_self_eq_true, Bool.not_true, cond_false, law05_RowFinds_j1]
      rw [show (0 : Int) = ((0 : Nat) : Int) from rfl, finds_l2 hq oq ox n 0 (by omega) (by omega), wrap_succ (by omega)]
      exact finds_l1 hn hl ol hq oq hk m (i + 1) (by omega) (by omega)
    · rw [condF' (ge_dec hi)]
theorem wakes_at : law05_wakes 300 = some true := by kernel_rfl
theorem rowFinds (l q : List Row) (k : Key) (ol : (∀ y ∈ l, ok_Row y) ∧ l.length ≤ maxLen) (oq : (∀ y ∈ q, ok_Row y) ∧ q.length ≤ maxLen) (hk : ok_Key k) : ∃ n, law05_RowFinds n l q k = some true := by
  refine ⟨300, ?_⟩
  have n1 : 150 ≤ 300 := by decide
  unfold law05_RowFinds
  rw [bindE wakes_at]
  simp only [Bool.not_true, cond_false]
  obtain ⟨b, hb, ho⟩ := over_ok n1 (Schema.mk []) l
  rw [bindE hb]
  cases b with
  | true => rfl
  | false =>
    obtain ⟨_, hl⟩ := ho rfl
    obtain ⟨b, hb, ho⟩ := over_ok n1 (Schema.mk []) q
    simp only [cond_false]
    rw [bindE hb]
    cases b with
    | true => rfl
    | false =>
      obtain ⟨_, hq⟩ := ho rfl
      obtain ⟨y, hy⟩ := find_tot (n := 300) (k := k) hl 300 0 (by omega) (by omega)
      have f1 : row_Find 300 l k = some (if 0 > y then 0 else y, decide (y ≥ 0)) := by
        unfold row_Find slices_IndexFunc_Row
        rw [find_eq, bindE (show ref05_Find_l1 300 l k 300 0 = some y from hy)]
      have f2 : ref05_Find 300 l k = some y := hy
      have f3 := of_tot (n := 300) (t := k.table) hl 300 [] 0 (by omega) (by omega) (by simp)
      have f4 : row_Of 300 l k.table = some _ := f3
      have f5 : ref05_Of 300 l k.table = some _ := (of_eq (n := 300) (l := l) (t := k.table) 300 [] 0).symm.trans f3
      have hfl : ([] ++ (l.drop 0).filter (fun r : Row => r.key.table == k.table)).length ≤ 200 := by
        have := List.length_filter_le (fun r : Row => r.key.table == k.table) l
        simp only [List.drop_zero, List.nil_append]; omega
      obtain ⟨y1, _, g1, g1'⟩ := same_ok (show 201 ≤ 300 by decide) (b := [] ++ (l.drop 0).filter (fun r : Row => r.key.table == k.table)) hfl
      obtain rfl := g1' rfl
      obtain ⟨y2, g2, g3, _⟩ := same_ok (show 201 ≤ 300 by decide) (a := l) (b := q) (by omega)
      obtain ⟨y3, g4, g5, g6⟩ := same_ok (show 201 ≤ 300 by decide) (a := l) (b := l) (by omega)
      obtain rfl := g6 rfl
      simp only [law05_RowFinds_j3, cond_false, f1, f2, f4, f5, g1, g2, g3, g4, Option.bind_some, beq_self_eq_true, bne_self_eq_false, Bool.not_true, law05_RowFinds_j2]
      exact finds_l1 n1 hl ol.1 hq oq.1 hk 300 0 (by omega) (by omega)

/-! ### RowTables -/
theorem filt_split {i : Int} : ∀ {l : List Row}, l.Pairwise (fun a b => a.key.table ≤ b.key.table) → l.filter (fun r => decide (r.key.table < i)) ++ l.filter (fun r => r.key.table == i) = l.filter (fun r => decide (r.key.table < i + 1))
  | [], _ => rfl
  | a :: l, h => by
    rw [List.pairwise_cons] at h
    have ih := filt_split (i := i) h.2
    simp only [List.filter_cons]
    rcases Int.lt_trichotomy a.key.table i with h1 | h1 | h1
    · rw [if_pos (by simpa using h1), if_neg (by simp; omega), if_pos (by simp; omega), ← ih]; rfl
    · have e : l.filter (fun r => decide (r.key.table < i)) = [] := by
        rw [List.filter_eq_nil_iff]
        intro r hr
        have := h.1 r hr
        simp; omega
      rw [if_neg (by simp; omega), if_pos (by simp; omega), if_pos (by simp; omega), ← ih, e]; rfl
    · have e : l.filter (fun r => decide (r.key.table < i + 1)) = [] := by
        rw [List.filter_eq_nil_iff]
        intro r hr
        have := h.1 r hr
        simp; omega
      rw [if_neg (by simp; omega), if_neg (by simp; omega), if_neg (by simp; omega), ih]
theorem srt_pair {s : Schema} : ∀ {l : List Row} {p : Option Key}, srt s p l → l.Pairwise (fun a b => a.key.table ≤ b.key.table) ∧ (∀ k, p = some k → ∀ r ∈ l, cmpK k r.key < 0) ∧ ∀ r ∈ l, keyErr s r.key = 0
  | [], p, _ => ⟨List.Pairwise.nil, fun _ _ _ h => (List.not_mem_nil h).elim, fun _ h => (List.not_mem_nil h).elim⟩
  | a :: l, p, h => by
    obtain ⟨h1, h2, h3⟩ := srt_pair h.2.2
    refine ⟨List.Pairwise.cons (fun r hr => ?_) h1, fun k hk r hr => ?_, fun r hr => ?_⟩
    · have := cmpK_lt.1 (h2 _ rfl r hr); omega
    · rcases List.mem_cons.1 hr with rfl | hr
      · exact h.2.1 k hk
      · exact cmpK_ltt (h.2.1 k hk) (h2 _ rfl r hr)
    · rcases List.mem_cons.1 hr with rfl | hr
      · exact h.1
      · exact h3 r hr
theorem tables_l2 {n : Nat} {a : List Row} {t : Int} {y : List Row} (hy : y.length ≤ 100) (ha : a.length ≤ 100) (ht : ∀ r ∈ y, r.key.table = t) {k : List Row → Int → Option Bool} : ∀ (m i : Nat), i ≤ y.length → y.length < m + i → law05_RowTables_l2 n a t y k m (i : Int) = k (a ++ y) (IntKind.wrap .i64 (t + 1))
  | 0, i, h0, h => by omega
  | m + 1, i, h0, h => by
    unfold law05_RowTables_l2
    by_cases hi : i < y.length
    · rw [condT' (lt_dec hi), idx_nat, get_some hi]
      have := ht _ (List.getElem_mem hi)
      simp only [Option.bind_some, this, bne_self_eq_false, cond_false]
      rw [wrap_succ (by omega)]
      exact tables_l2 hy ha ht m (i + 1) (by omega) (by omega)
    · rw [condF' (ge_dec hi), bindE (app_lt (by omega) (by decide))]
theorem tables_l1 {n : Nat} (hn : 201 ≤ n) {s : Schema} (hs : s.tables.length ≤ 20) {l : List Row} (hl : l.length ≤ 100) (hp : l.Pairwise (fun a b => a.key.table ≤ b.key.table)) (hk : ∀ r ∈ l, 0 ≤ r.key.table ∧ r.key.table < s.tables.length) : ∀ (m i : Nat), i ≤ s.tables.length → s.tables.length < m + i →
    law05_RowTables_l1 n s l m (l.filter (fun r => decide (r.key.table < (i : Int)))) (i : Int) = some true
  | 0, i, h0, h => by omega
  | m + 1, i, h0, h => by
    unfold law05_RowTables_l1
    have hf : (l.filter (fun r => decide (r.key.table < (i : Int)))).length ≤ 100 := Nat.le_trans (List.length_filter_le _ _) hl
    have hg : (l.filter (fun r => r.key.table == (i : Int))).length ≤ 100 := Nat.le_trans (List.length_filter_le _ _) hl
    by_cases hi : i < s.tables.length
    · have f4 : row_Of n l (i : Int) = some (l.filter (fun r => r.key.table == (i : Int))) := of_tot (n := n) (t := (i : Int)) hl n [] 0 (by omega) (by omega) (by simp)
      rw [condT' (lt_dec hi), bindE f4, show (0 : Int) = ((0 : Nat) : Int) from rfl, tables_l2 hg hf (fun r hr => by simpa using (List.mem_filter.1 hr).2) n 0 (by omega) (by omega), filt_split hp, wrap_succ (by omega)]
      exact tables_l1 hn hs hl hp hk m (i + 1) (by omega) (by omega)
    · rw [condF' (ge_dec hi)]
      have e : l.filter (fun r => decide (r.key.table < (i : Int))) = l := by
        rw [List.filter_eq_self]
        intro r hr
        have := hk r hr
        simp; omega
      rw [e]
      obtain ⟨y3, g4, g5, g6⟩ := same_ok (n := n) hn (a := l) (b := l) (by omega)
      rw [g4, g6 rfl]; rfl
theorem rowTables (s : Schema) (l : List Row) (_ : ok_Schema s) (_ : (∀ y ∈ l, ok_Row y) ∧ l.length ≤ maxLen) : ∃ n, law05_RowTables n s l = some true := by
  refine ⟨300, ?_⟩
  have n1 : 150 ≤ 300 := by decide
  have n2 : 300 ≤ 1000 := by decide
  unfold law05_RowTables
  rw [bindE wakes_at]
  simp only [Bool.not_true, cond_false]
  obtain ⟨b, hb, ho⟩ := over_ok n1 s l
  rw [bindE hb]
  cases b with
  | true => rfl
  | false =>
    obtain ⟨hs, hl⟩ := ho rfl
    obtain ⟨e, he, f1, f2⟩ := list_eq n1 n2 s hs hl
    simp only [cond_false]
    rw [bindE he]
    unfold law05_RowTables_j1
    by_cases h0 : e = 0
    · subst h0
      cases hr : right s with
      | false => cases f1 hr
      | true =>
        obtain ⟨b, _, g2, g3⟩ := f2 hr
        obtain ⟨p1, _, p3⟩ := srt_pair (g3 (by cases b with | true => rfl | false => cases g2))
        have hk : ∀ r ∈ l, 0 ≤ r.key.table ∧ r.key.table < s.tables.length := fun r hr => by
          have := p3 r hr
          unfold keyErr at this
          by_cases h : 0 ≤ r.key.table ∧ r.key.table < s.tables.length
          · exact h
          · rw [if_neg h] at this; cases this
        have e0 : l.filter (fun r => decide (r.key.table < ((0 : Nat) : Int))) = [] := by
          rw [List.filter_eq_nil_iff]
          intro r hr
          have := hk r hr
          simp; omega
        have := tables_l1 (show 201 ≤ 300 by decide) hs hl p1 hk 300 0 (by omega) (by omega)
        rw [e0] at this
        exact this
    · rw [condT' (by simpa using h0)]
end Go.Proofs.Ytlflbhhajnoelaa
