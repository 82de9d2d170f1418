import Derived.Test.YtndehfninoimgaaGreatF5
import Derived.Test.YtndehfninoimgaaGreatGra
import Derived.Test.YtndehfninoimgaaGreatRw
namespace Go.Proofs.YtndehfninoimgaaGreat
open Go.Bur
set_option linter.unusedSimpArgs false
set_option linter.unusedVariables false
set_option maxRecDepth 100000
def isM (a : Int) : Bool := decide (0 ≤ a ∧ a ≤ 6)
theorem isM_cases {a : Int} (h : isM a = true) : a = 0 ∨ a = 1 ∨ a = 2 ∨ a = 3 ∨ a = 4 ∨ a = 5 ∨ a = 6 := by
  have := of_decide_eq_true h; omega
def coversB (a b : Int) : Bool := isM a && isM b && (decide (a = b) || decide (b = 0) || decide (a = 5) || decide (b = 1 ∧ (a = 2 ∨ a = 3 ∨ a = 4)) || decide (a = 4 ∧ (b = 2 ∨ b = 3)))
def goesB (a b : Int) : Bool := isM a && isM b && (decide (a = 0) || decide (b = 0) || decide (a = 1 ∧ b ≤ 4) || decide (b = 1 ∧ a ≤ 4) || decide (a = 2 ∧ b = 2) || decide (a = 3 ∧ b = 3) || decide (a = 6 ∧ b = 6))
def keyM (a : Int) : Bool := decide (a = 0 ∨ a = 3 ∨ a = 5 ∨ a = 6)
def tabM (a : Int) : Bool := isM a && !decide (a = 6)
theorem mode_is_eq (n : Nat) (a : Int) : mode_is n a = some (isM a) := by
  unfold mode_is isM
  simp only [jn]
  by_cases h1 : a ≥ 0
  · rw [decide_eq_true h1]
    simp only [cond_true]
    congr 1
    exact decide_eq_decide.2 (by omega)
  · rw [decide_eq_false h1, decide_eq_false (show ¬ (0 ≤ a ∧ a ≤ 6) by omega)]; rfl
theorem ref_is_eq (n : Nat) (a : Int) : ref07_Is n a = some (isM a) := by
  unfold ref07_Is isM
  simp only [jn]
  by_cases h1 : a ≥ 0
  · rw [decide_eq_true h1]
    simp only [cond_true]
    congr 1
    exact decide_eq_decide.2 (by omega)
  · rw [decide_eq_false h1, decide_eq_false (show ¬ (0 ≤ a ∧ a ≤ 6) by omega)]; rfl
theorem covers_eq (n : Nat) (hn : 20 ≤ n) (a b : Int) : mode_Covers n a b = some (coversB a b) := by
  obtain ⟨n, rfl⟩ : ∃ m, n = m + 20 := ⟨n - 20, by omega⟩
  cases ha : isM a with
  | false => unfold mode_Covers coversB; simp only [mode_is_eq, ha, Option.bind_some, jn, cond_false, Bool.false_and]
  | true =>
    cases hb : isM b with
    | false => unfold mode_Covers coversB; simp only [mode_is_eq, ha, hb, Option.bind_some, jn, cond_true, cond_false, Bool.false_and, Bool.and_false]
    | true =>
      rcases isM_cases ha with rfl | rfl | rfl | rfl | rfl | rfl | rfl <;> rcases isM_cases hb with rfl | rfl | rfl | rfl | rfl | rfl | rfl <;> kernel_rfl
theorem goes_eq (n : Nat) (hn : 20 ≤ n) (a b : Int) : mode_Goes n a b = some (goesB a b) := by
  obtain ⟨n, rfl⟩ : ∃ m, n = m + 20 := ⟨n - 20, by omega⟩
  cases ha : isM a with
  | false => unfold mode_Goes goesB; simp only [mode_is_eq, ha, Option.bind_some, jn, cond_false, Bool.false_and]
  | true =>
    cases hb : isM b with
    | false => unfold mode_Goes goesB; simp only [mode_is_eq, ha, hb, Option.bind_some, jn, cond_true, cond_false, Bool.false_and, Bool.and_false]
    | true =>
      rcases isM_cases ha with rfl | rfl | rfl | rfl | rfl | rfl | rfl <;> rcases isM_cases hb with rfl | rfl | rfl | rfl | rfl | rfl | rfl <;> kernel_rfl
theorem rgoes_eq (n : Nat) (a b : Int) : ref07_Goes n a b = some (goesB a b) := by
  cases ha : isM a with
  | false => unfold ref07_Goes goesB; simp only [ref_is_eq, ha, Option.bind_some, jn, cond_true, Bool.not_false, Bool.false_and]
  | true =>
    cases hb : isM b with
    | false => unfold ref07_Goes goesB; simp only [ref_is_eq, ha, hb, Option.bind_some, jn, cond_true, cond_false, Bool.not_true, Bool.not_false, Bool.false_and, Bool.and_false]
    | true =>
      rcases isM_cases ha with rfl | rfl | rfl | rfl | rfl | rfl | rfl <;> rcases isM_cases hb with rfl | rfl | rfl | rfl | rfl | rfl | rfl <;> kernel_rfl
theorem rcovers_eq (n : Nat) (a b : Int) : ref07_Covers n a b = some (coversB a b) := by
  cases ha : isM a with
  | false => unfold ref07_Covers coversB; simp only [ref_is_eq, ha, Option.bind_some, jn, cond_true, Bool.not_false, Bool.false_and]
  | true =>
    cases hb : isM b with
    | false => unfold ref07_Covers coversB; simp only [ref_is_eq, ha, hb, Option.bind_some, jn, cond_true, cond_false, Bool.not_true, Bool.not_false, Bool.false_and, Bool.and_false]
    | true =>
      rcases isM_cases ha with rfl | rfl | rfl | rfl | rfl | rfl | rfl <;> rcases isM_cases hb with rfl | rfl | rfl | rfl | rfl | rfl | rfl <;> kernel_rfl
theorem ofTables_eq (n : Nat) (a : Int) : mode_OfTables n a = some (tabM a) := by
  unfold mode_OfTables tabM
  simp only [mode_is_eq, Option.bind_some, jn, ibne]
  cases isM a <;> rfl
theorem keyM_is {a : Int} (h : isM a = false) : keyM a = false := by
  have := of_decide_eq_false h
  unfold keyM
  exact decide_eq_false (by omega)
theorem ofKeys_eq (n : Nat) (hn : 20 ≤ n) (a : Int) : mode_OfKeys n a = some (keyM a) := by
  obtain ⟨n, rfl⟩ : ∃ m, n = m + 20 := ⟨n - 20, by omega⟩
  cases ha : isM a with
  | false => unfold mode_OfKeys; simp only [mode_is_eq, ha, Option.bind_some, jn, cond_false, keyM_is ha]
  | true => rcases isM_cases ha with rfl | rfl | rfl | rfl | rfl | rfl | rfl <;> kernel_rfl
theorem rtables_eq (n : Nat) (a : Int) : ref07_Tables n a = some (tabM a) := by
  unfold ref07_Tables tabM
  simp only [ref_is_eq, Option.bind_some, jn, ibne]
  cases isM a <;> rfl
theorem rkeys_eq (n : Nat) (a : Int) : ref07_Keys n a = some (keyM a) := by
  unfold ref07_Keys keyM
  simp only [jn, ibeq]
  by_cases h0 : a = 0 <;> by_cases h3 : a = 3 <;> by_cases h5 : a = 5 <;> by_cases h6 : a = 6 <;> simp [h0, h3, h5, h6]
def txnB (x : Int) : Bool := decide (1 ≤ x ∧ x ≤ 1073741824)
theorem txn_eq (n : Nat) (x : Int) : locks_txn n x = some (txnB x) := by
  unfold locks_txn txnB
  simp only [jn]
  by_cases h1 : x ≥ 1
  · rw [decide_eq_true h1]
    simp only [cond_true]
    congr 1
    exact decide_eq_decide.2 (by omega)
  · rw [decide_eq_false h1, decide_eq_false (show ¬ (1 ≤ x ∧ x ≤ 1073741824) by omega)]; rfl
theorem rtxn_eq (n : Nat) (x : Int) : ref08_txn n x = some (txnB x) := by
  unfold ref08_txn txnB
  simp only [jn]
  by_cases h1 : x ≥ 1
  · rw [decide_eq_true h1]
    simp only [cond_true]
    congr 1
    exact decide_eq_decide.2 (by omega)
  · rw [decide_eq_false h1, decide_eq_false (show ¬ (1 ≤ x ∧ x ≤ 1073741824) by omega)]; rfl
def resB (r : Res) : Bool := decide (0 ≤ r.table ∧ r.table < 3) && (r.isKey || decide (r.id = 0))
theorem locked_eq (n : Nat) (r : Res) : locks_locked n r = some (resB r) := by
  unfold locks_locked resB
  simp only [jn, ibeq]
  by_cases h1 : r.table ≥ 0
  · by_cases h2 : r.table < 3
    · rw [decide_eq_true h1, decide_eq_true h2, decide_eq_true (show 0 ≤ r.table ∧ r.table < 3 from ⟨h1, h2⟩)]
      cases r.isKey <;> rfl
    · rw [decide_eq_true h1, decide_eq_false h2, decide_eq_false (show ¬ (0 ≤ r.table ∧ r.table < 3) by omega)]; rfl
  · rw [decide_eq_false h1, decide_eq_false (show ¬ (0 ≤ r.table ∧ r.table < 3) by omega)]; rfl
theorem rres_eq (n : Nat) (r : Res) : ref08_RightRes n r = some (resB r) := by
  unfold ref08_RightRes resB
  simp only [jn, ibeq]
  by_cases h1 : r.table ≥ 0
  · by_cases h2 : r.table < 3
    · rw [decide_eq_true h1, decide_eq_true h2, decide_eq_true (show 0 ≤ r.table ∧ r.table < 3 from ⟨h1, h2⟩)]
      cases r.isKey <;> rfl
    · rw [decide_eq_true h1, decide_eq_false h2, decide_eq_false (show ¬ (0 ≤ r.table ∧ r.table < 3) by omega)]; rfl
  · rw [decide_eq_false h1, decide_eq_false (show ¬ (0 ≤ r.table ∧ r.table < 3) by omega)]; rfl
def modeB (r : Res) (m : Int) : Bool := !decide (m = 0) && (if r.isKey then keyM m else tabM m)
theorem of_eq (n : Nat) (hn : 20 ≤ n) (r : Res) (m : Int) : locks_of n r m = some (modeB r m) := by
  unfold locks_of modeB
  simp only [jn, ibne, ofKeys_eq n hn, ofTables_eq, Option.bind_some]
  cases r.isKey <;> by_cases h : m = 0 <;> simp [h]
theorem rmode_eq (n : Nat) (r : Res) (m : Int) : ref08_RightMode n r m = some (modeB r m) := by
  unfold ref08_RightMode modeB
  simp only [jn, ibeq, rkeys_eq, rtables_eq, Option.bind_some]
  cases r.isKey <;> by_cases h : m = 0 <;> simp [h]
def rankR (r : Res) : Int := if r.isKey then 1 else 0
def ltR (a b : Res) : Bool := decide (a.table < b.table ∨ a.table = b.table ∧ (rankR a < rankR b ∨ rankR a = rankR b ∧ a.id < b.id))
theorem ltR_iff {a b : Res} : ltR a b = true ↔ a.table < b.table ∨ a.table = b.table ∧ (rankR a < rankR b ∨ rankR a = rankR b ∧ a.id < b.id) := by unfold ltR; exact decide_eq_true_iff
theorem ltR_trans (a b c : Res) (h : ltR a b = true) (k : ltR b c = true) : ltR a c = true := by
  rw [ltR_iff] at *; omega
def cmpT (a b : Int) : Int := if a < b then -1 else if a > b then 1 else 0
theorem cmpT_int (n : Nat) (a b : Int) : cmp_Compare_int n a b = some (cmpT a b) := by
  unfold cmp_Compare_int cmp_isNaN_int cmpT
  by_cases h1 : a < b
  · simp [h1]
  · by_cases h2 : a > b
    · simp [h1, h2]
    · simp [h1, h2]
theorem cmpT_u16 (n : Nat) (a b : Int) : cmp_Compare_uint16 n a b = some (cmpT a b) := by
  unfold cmp_Compare_uint16 cmp_isNaN_uint16 cmpT
  by_cases h1 : a < b
  · simp [h1]
  · by_cases h2 : a > b
    · simp [h1, h2]
    · simp [h1, h2]
theorem or3T (n : Nat) (hn : 4 ≤ n) (a b c : Int) : cmp_Or_int n [a, b, c] = some (if a ≠ 0 then a else if b ≠ 0 then b else c) := by
  obtain ⟨n, rfl⟩ : ∃ m, n = m + 4 := ⟨n - 4, by omega⟩
  unfold cmp_Or_int cmp_Or_int_l1
  by_cases ha : a = 0
  · subst ha
    by_cases hb : b = 0
    · subst hb
      by_cases hc : c = 0
      · subst hc; rfl
      · have : (c != 0) = true := by simpa using hc
        simp [loopF, idx, IntKind.wrap_i64, this]
    · have : (b != 0) = true := by simpa using hb
      simp [loopF, idx, IntKind.wrap_i64, this, hb]
  · have : (a != 0) = true := by simpa using ha
    simp [loopF, idx, this, ha]
theorem rank_eq (n : Nat) (r : Res) : locks_compare_1 n r = some (rankR r) := by
  unfold locks_compare_1 rankR
  cases r.isKey <;> rfl
def cR (a b : Res) : Int := if cmpT a.table b.table ≠ 0 then cmpT a.table b.table else if cmpT (rankR a) (rankR b) ≠ 0 then cmpT (rankR a) (rankR b) else cmpT a.id b.id
theorem compareR (n : Nat) (hn : 20 ≤ n) (a b : Res) : locks_compare n a b = some (cR a b) := by
  unfold locks_compare cR
  simp only [cmpT_int, cmpT_u16, rank_eq, Option.bind_some, or3T n (by omega)]
theorem cmpT_cases (a b : Int) : (a < b ∧ cmpT a b = -1) ∨ (a = b ∧ cmpT a b = 0) ∨ (b < a ∧ cmpT a b = 1) := by
  unfold cmpT
  split
  · left; omega
  · split
    · right; right; omega
    · right; left; omega
theorem cR_ge {a b : Res} : decide (cR a b ≥ 0) = !ltR a b := by
  unfold cR ltR
  rcases cmpT_cases a.table b.table with ⟨h, e⟩ | ⟨h, e⟩ | ⟨h, e⟩ <;> rcases cmpT_cases (rankR a) (rankR b) with ⟨h2, e2⟩ | ⟨h2, e2⟩ | ⟨h2, e2⟩ <;> rcases cmpT_cases a.id b.id with ⟨h3, e3⟩ | ⟨h3, e3⟩ | ⟨h3, e3⟩ <;> rw [e, e2, e3] <;> simp [h, h2, h3] <;> omega
def ordR (r : Res) : Int := r.table * 100000 + (if r.isKey then 1 + r.id else 0)
theorem order_eq (n : Nat) (r : Res) (h : resB r = true) (hi : 0 ≤ r.id ∧ r.id < 65536) : ref08_order n r = some (ordR r) := by
  unfold resB at h
  rw [Bool.and_eq_true, decide_eq_true_iff] at h
  unfold ref08_order ordR
  simp only [jn, ref08_order_j1]
  cases r.isKey with
  | true =>
    simp only [cond_true, if_true]
    rw [wrap_in (x := r.table * 100000) (by omega), wrap_in (x := r.id) (by omega), wrap_in (x := 1 + r.id) (by omega), wrap_in (by omega)]
  | false =>
    simp only [cond_false, Bool.false_eq_true, if_false]
    rw [wrap_in (by omega)]
    congr 1; omega
theorem rk_cases {a : Res} (h : resB a = true) : (0 ≤ a.table ∧ a.table < 3) ∧ ((rankR a = 1 ∧ ordR a = a.table * 100000 + (1 + a.id)) ∨ (rankR a = 0 ∧ ordR a = a.table * 100000 + 0 ∧ a.id = 0)) := by
  unfold resB at h
  rw [Bool.and_eq_true, decide_eq_true_iff] at h
  refine ⟨h.1, ?_⟩
  unfold rankR ordR
  have h2 := h.2
  cases hk : a.isKey with
  | true => exact .inl ⟨rfl, rfl⟩
  | false =>
    rw [hk, Bool.false_or, decide_eq_true_iff] at h2
    exact .inr ⟨rfl, rfl, h2⟩
theorem ord_ge {a b : Res} (ha : resB a = true) (hb : resB b = true) (ia : 0 ≤ a.id ∧ a.id < 65536) (ib : 0 ≤ b.id ∧ b.id < 65536) : decide (ordR a ≥ ordR b) = !ltR a b := by
  obtain ⟨h1, h2⟩ := rk_cases ha
  obtain ⟨k1, k2⟩ := rk_cases hb
  unfold ltR
  rw [Bool.eq_iff_iff, decide_eq_true_iff, Bool.not_eq_true', decide_eq_false_iff_not]
  generalize rankR a = x at *
  generalize rankR b = y at *
  generalize ordR a = u at *
  generalize ordR b = v at *
  rcases h2 with ⟨h2, h3⟩ | ⟨h2, h3, h4⟩ <;> rcases k2 with ⟨k2, k3⟩ | ⟨k2, k3, k4⟩ <;> omega
def heldL (hs : List Hold) (x : Int) : Int := ((hs.find? fun h => decide (h.txn = x)).map (·.mode)).getD 0
def goesL (hs : List Hold) (x m : Int) : Bool := hs.all fun h => decide (h.txn = x) || goesB h.mode m
theorem held_eq (n : Nat) (hn : 1003 ≤ n) (q : Queue) (hq : q.holders.length ≤ 1000) (x : Int) : locks_held n q x = some (heldL q.holders x) := by
  unfold locks_held
  have h1 : slices_IndexFunc_Hold_f101 n q.holders x = some (match q.holders.findIdx? (fun h => decide (h.txn = x)) with | some j => (j : Int) | none => -1) := by
    unfold slices_IndexFunc_Hold_f101
    show slices_IndexFunc_Hold_f101_l1 n n (q.holders, x, (q.holders.length : Int), ((0 : Nat) : Int), ()) = _
    unfold slices_IndexFunc_Hold_f101_l1
    rw [run_loop q.holders (fun i (_ : Unit) => (q.holders, x, (q.holders.length : Int), (i : Int), ())) (fun i h _ => if decide (h.txn = x) then .inl (some (i : Int)) else .inr ()) (fun _ => some (-1)) ?_ ?_ n 0 () (Nat.zero_le _) (by omega)]
    · rw [List.drop_zero, runL_find0 (f := fun i => some (i : Int))]
      cases q.holders.findIdx? (fun h => decide (h.txn = x)) with
      | none => rfl
      | some j => simp
    · intro r i s y hy hi
      simp only [lt_dec hi, cond_true, idx_nat, hy, Option.bind_some, locks_held_1, ibeq, wrap_succ (show i < 4611686018427387904 by omega)]
      cases decide (y.txn = x) <;> rfl
    · intro r s
      simp only [ge_dec (Nat.lt_irrefl _), cond_false]
  rw [h1, Option.bind_some]
  unfold heldL
  rw [List.find?_eq_bind_findIdx?_getElem?]
  cases hf : q.holders.findIdx? (fun h => decide (h.txn = x)) with
  | none => rfl
  | some j =>
    obtain ⟨hj, _, _⟩ := List.findIdx?_eq_some_iff_getElem.1 hf
    simp only [decide_eq_false (show ¬ (j : Int) < 0 by omega), cond_false, idx_nat, get_some hj, Option.bind_some, Option.map_some, Option.getD_some]
theorem rheld_eq (n : Nat) (hn : 1003 ≤ n) (q : Queue) (hq : q.holders.length ≤ 1000) (x : Int) : ref08_held n q x = some (heldL q.holders x) := by
  unfold ref08_held
  show ref08_held_l1 n n (x, q.holders, (q.holders.length : Int), ((0 : Nat) : Int), ()) = _
  unfold ref08_held_l1
  have key : ∀ (hs : List Hold) (i : Nat), runL (fun (_ : Nat) (h : Hold) (_ : Unit) => if decide (h.txn = x) then .inl (some h.mode) else .inr ()) (fun _ => some 0) hs i () = some (heldL hs x) := by
    intro hs
    induction hs with
    | nil => intro i; rfl
    | cons h t ih =>
      intro i
      unfold heldL
      by_cases hx : h.txn = x
      · simp [runL, hx]
      · simp only [runL, decide_eq_false hx, Bool.false_eq_true, if_false, List.find?_cons]
        exact ih (i + 1)
  rw [run_loop q.holders (fun i (_ : Unit) => (x, q.holders, (q.holders.length : Int), (i : Int), ())) (fun _ h _ => if decide (h.txn = x) then .inl (some h.mode) else .inr ()) (fun _ => some 0) ?_ ?_ n 0 () (Nat.zero_le _) (by omega)]
  · rw [List.drop_zero]; exact key _ _
  · intro r i s y hy hi
    simp only [lt_dec hi, cond_true, idx_nat, hy, Option.bind_some, ibeq, wrap_succ (show i < 4611686018427387904 by omega)]
    cases decide (y.txn = x) <;> rfl
  · intro r s
    simp only [ge_dec (Nat.lt_irrefl _), cond_false]
theorem goes1_eq (n : Nat) (hn : 20 ≤ n) (h : Hold) (x m : Int) : locks_goes_1 n h x m = some (!(decide (h.txn = x) || goesB h.mode m)) := by
  unfold locks_goes_1
  simp only [jn, ibne, goes_eq n hn, Option.bind_some]
  cases decide (h.txn = x) <;> rfl
theorem goesL_eq (n : Nat) (hn : 1003 ≤ n) (q : Queue) (hq : q.holders.length ≤ 1000) (x m : Int) : locks_goes n q x m = some (goesL q.holders x m) := by
  unfold locks_goes slices_ContainsFunc_Hold_f103
  have h1 : slices_IndexFunc_Hold_f103 n q.holders x m = some (match q.holders.findIdx? (fun h => !(decide (h.txn = x) || goesB h.mode m)) with | some j => (j : Int) | none => -1) := by
    unfold slices_IndexFunc_Hold_f103
    show slices_IndexFunc_Hold_f103_l1 n n (q.holders, x, m, (q.holders.length : Int), ((0 : Nat) : Int), ()) = _
    unfold slices_IndexFunc_Hold_f103_l1
    rw [run_loop q.holders (fun i (_ : Unit) => (q.holders, x, m, (q.holders.length : Int), (i : Int), ())) (fun i h _ => if !(decide (h.txn = x) || goesB h.mode m) then .inl (some (i : Int)) else .inr ()) (fun _ => some (-1)) ?_ ?_ n 0 () (Nat.zero_le _) (by omega)]
    · rw [List.drop_zero, runL_find0 (f := fun i => some (i : Int))]
      cases q.holders.findIdx? (fun h => !(decide (h.txn = x) || goesB h.mode m)) with
      | none => rfl
      | some j => simp
    · intro r i s y hy hi
      simp only [lt_dec hi, cond_true, idx_nat, hy, Option.bind_some, goes1_eq n (by omega), wrap_succ (show i < 4611686018427387904 by omega)]
      cases decide (y.txn = x) || goesB y.mode m <;> rfl
    · intro r s
      simp only [ge_dec (Nat.lt_irrefl _), cond_false]
  rw [h1]
  simp only [Option.bind_some]
  congr 1
  unfold goesL
  cases hf : q.holders.findIdx? (fun h => !(decide (h.txn = x) || goesB h.mode m)) with
  | none =>
    have := List.findIdx?_eq_none_iff.1 hf
    symm
    simp only [show ¬ ((-1 : Int) ≥ 0) by omega, decide_false, Bool.not_false, List.all_eq_true]
    intro y hy
    have := this y hy
    rw [Bool.or_eq_true, decide_eq_true_iff]
    by_cases hx : y.txn = x
    · exact .inl hx
    · exact .inr (by simpa [hx] using this)
  | some j =>
    obtain ⟨hj, h2, _⟩ := List.findIdx?_eq_some_iff_getElem.1 hf
    symm
    simp only [show ((j : Int) ≥ 0) by omega, decide_true, Bool.not_true]
    rw [List.all_eq_false]
    exact ⟨_, List.getElem_mem hj, by simpa using h2⟩
theorem rgoesL_eq (n : Nat) (hn : 1003 ≤ n) (q : Queue) (hq : q.holders.length ≤ 1000) (x m : Int) : ref08_goes n q x m = some (goesL q.holders x m) := by
  unfold ref08_goes
  show ref08_goes_l1 n n (x, m, q.holders, (q.holders.length : Int), ((0 : Nat) : Int), ()) = _
  unfold ref08_goes_l1
  rw [run_loop q.holders (fun i (_ : Unit) => (x, m, q.holders, (q.holders.length : Int), (i : Int), ())) (fun _ h _ => if decide (h.txn = x) || goesB h.mode m then .inr () else .inl (some false)) (fun _ => some true) ?_ ?_ n 0 () (Nat.zero_le _) (by omega)]
  · rw [List.drop_zero, runL_all]
    unfold goesL
    cases q.holders.all fun h => decide (h.txn = x) || goesB h.mode m <;> rfl
  · intro r i s y hy hi
    simp only [lt_dec hi, cond_true, idx_nat, hy, Option.bind_some, jn, ibne, rgoes_eq, wrap_succ (show i < 4611686018427387904 by omega)]
    cases decide (y.txn = x) <;> cases goesB y.mode m <;> rfl
  · intro r s
    simp only [ge_dec (Nat.lt_irrefl _), cond_false]
end Go.Proofs.YtndehfninoimgaaGreat
namespace Go.Proofs.YtndehfninoimgaaGreat
open Go.Bur
set_option linter.unusedSimpArgs false
set_option linter.unusedVariables false
set_option maxRecDepth 100000
theorem runL_chk2 {α σ R : Type} {p : Nat → α → Bool} {g : α → σ → σ} {v : Option R} {fin : σ → Option R} : ∀ (l : List α) (i : Nat) (s : σ), runL (fun i x s => if p i x then .inr (g x s) else .inl v) fin l i s = if allFrom p i l then fin (l.foldl (fun s x => g x s) s) else v
  | [], _, _ => rfl
  | x :: t, i, s => by
    by_cases hp : p i x = true
    · simp only [runL, allFrom, hp, if_true, Bool.true_and, List.foldl_cons]; exact runL_chk2 t (i + 1) _
    · have hp : p i x = false := by simpa using hp
      simp [runL, allFrom, hp]
theorem allFrom_iff {α : Type} {p : Nat → α → Bool} : ∀ {l : List α} {k : Nat}, allFrom p k l = true ↔ ∀ i x, l[i]? = some x → p (k + i) x = true
  | [], k => by simp [allFrom]
  | y :: l, k => by
    simp only [allFrom, Bool.and_eq_true, allFrom_iff (l := l) (k := k + 1)]
    constructor
    · rintro ⟨h1, h2⟩ i x hx
      cases i with
      | zero => simp at hx; subst hx; exact h1
      | succ i => rw [show k + (i + 1) = k + 1 + i from by omega]; exact h2 i x (by simpa using hx)
    · intro h
      exact ⟨h 0 y rfl, fun i x hx => by rw [show k + 1 + i = k + (i + 1) from by omega]; exact h (i + 1) x (by simpa using hx)⟩
theorem pair_iff {α : Type} {R : α → α → Prop} : ∀ {l : List α}, l.Pairwise R ↔ ∀ i x, l[i]? = some x → ∀ y ∈ l.take i, R y x
  | [] => by simp
  | a :: l => by
    rw [List.pairwise_cons, pair_iff (l := l)]
    constructor
    · rintro ⟨h1, h2⟩ i x hx y hy
      cases i with
      | zero => simp at hy
      | succ i =>
        rw [List.take_succ_cons] at hy
        have hx : l[i]? = some x := by simpa using hx
        rcases List.mem_cons.1 hy with rfl | hy
        · exact h1 x (List.mem_of_getElem? hx)
        · exact h2 i x hx y hy
    · intro h
      refine ⟨fun x hx => ?_, fun i x hx y hy => h (i + 1) x (by simpa using hx) y (by rw [List.take_succ_cons]; exact List.mem_cons_of_mem _ hy)⟩
      obtain ⟨i, hi⟩ := List.mem_iff_getElem?.1 hx
      exact h (i + 1) x (by simpa using hi) a (by rw [List.take_succ_cons]; exact List.mem_cons_self ..)
def hB (r : Res) (hs : List Hold) (h : Hold) : Bool := txnB h.txn && modeB r h.mode && goesL hs h.txn h.mode
def ltH (a b : Hold) : Bool := decide (a.txn < b.txn)
def holdersB (r : Res) (hs : List Hold) : Bool := !hs.isEmpty && chainB (hB r hs) ltH none hs
theorem fold_last {hs : List Hold} {r : Res} {l : List Hold} : ∀ {s : Int}, 0 ≤ s → (∀ h ∈ l, hB r hs h = true) → 0 ≤ l.foldl (fun _ h => h.txn) s ∧ (l ≠ [] → 0 < l.foldl (fun _ h => h.txn) s) := by
  induction l with
  | nil => intro s hs' _; exact ⟨hs', fun h => absurd rfl h⟩
  | cons h t ih =>
    intro s _ hall
    have hh := hall h (List.mem_cons_self ..)
    unfold hB txnB at hh
    rw [Bool.and_eq_true, Bool.and_eq_true, decide_eq_true_iff] at hh
    rw [List.foldl_cons]
    obtain ⟨h1, h2⟩ := ih (s := h.txn) (by omega) fun x hx => hall x (List.mem_cons_of_mem _ hx)
    refine ⟨h1, fun _ => ?_⟩
    cases t with
    | nil => simp; omega
    | cons y t => exact h2 (by simp)
theorem ltH_trans (a b c : Hold) (h : ltH a b = true) (k : ltH b c = true) : ltH a c = true := by
  unfold ltH at *
  rw [decide_eq_true_iff] at *; omega
theorem holders_eq (n : Nat) (hn : 1003 ≤ n) (q : Queue) (hq : q.holders.length ≤ 1000) : locks_holders n q = some (holdersB q.res q.holders) := by
  unfold locks_holders
  show locks_holders_l1 n n (0, q.holders, (q.holders.length : Int), ((0 : Nat) : Int), q, ()) = _
  unfold locks_holders_l1
  rw [run_loopI q.holders (fun i (s : Int) => (s, q.holders, (q.holders.length : Int), (i : Int), q, ())) (fun i h s => if stepA (hB q.res q.holders) ltH q.holders i h then .inr h.txn else .inl (some false)) (fun s => some (decide (s > 0))) (fun i s => s = match prevO q.holders i with | none => 0 | some y => y.txn) ?_ ?_ ?_ n 0 0 (Nat.zero_le _) (by omega) rfl]
  · rw [List.drop_zero, runL_chk2 (g := fun (h : Hold) (_ : Int) => h.txn), allFrom_chain]
    unfold holdersB
    cases hc : chainB (hB q.res q.holders) ltH none q.holders with
    | false => simp
    | true =>
      have hall := ((chain_iff ltH_trans).1 hc).1
      have hf := fold_last (s := 0) (Int.le_refl _) hall
      simp only [if_true, Bool.and_true]
      congr 1
      cases hh : q.holders with
      | nil => rfl
      | cons x t =>
        rw [hh] at hf
        simp only [List.isEmpty_cons, Bool.not_false]
        exact decide_eq_true (hf.2 (by simp))
  · intro i s h s' hh hI hs
    split at hs
    · cases hs
      simp [prevO, hh]
    · cases hs
  · intro r i s h hh hi hI
    simp only [lt_dec hi, cond_true, idx_nat, hh, Option.bind_some, txn_eq, jn, goesL_eq n hn q hq, of_eq n (by omega), wrap_succ (show i < 4611686018427387904 by omega)]
    unfold stepA hB
    cases ht : txnB h.txn with
    | false => rfl
    | true =>
      have h1 : 1 ≤ h.txn := (of_decide_eq_true ht).1
      have hle : decide (h.txn ≤ s) = !prevOk ltH h (prevO q.holders i) := by
        rw [hI]
        cases prevO q.holders i with
        | none => simp only [prevOk, Bool.not_true]; exact decide_eq_false (by omega)
        | some y =>
          simp only [prevOk]
          unfold ltH
          by_cases hy : y.txn < h.txn
          · rw [decide_eq_true hy, decide_eq_false (by omega)]; rfl
          · rw [decide_eq_false hy, decide_eq_true (by omega)]; rfl
      rw [hle]
      cases prevOk ltH h (prevO q.holders i) <;> cases modeB q.res h.mode <;> cases goesL q.holders h.txn h.mode <;> rfl
  · intro r s hI
    simp only [ge_dec (Nat.lt_irrefl _), cond_false]
def wS (r : Res) (hs : List Hold) (w : Wait) : Bool := txnB w.txn && modeB r w.mode && decide (w.held = heldL hs w.txn) && !coversB w.held w.mode && coversB w.mode w.held
def wR (a b : Wait) : Bool := !(!decide (b.held = 0) && decide (a.held = 0))
theorem wR_iff {a b : Wait} : wR a b = true ↔ (a.held = 0 → b.held = 0) := by
  unfold wR
  by_cases h1 : a.held = 0 <;> by_cases h2 : b.held = 0 <;> simp [h1, h2]
theorem wR_trans (a b c : Wait) (h : wR a b = true) (k : wR b c = true) : wR a c = true := by
  rw [wR_iff] at *; exact fun x => k (h x)
def firstB (hs : List Hold) : List Wait → Bool
  | [] => true
  | w :: _ => !goesL hs w.txn w.mode
def waitersB (r : Res) (hs : List Hold) (ws : List Wait) : Bool := chainB (wS r hs) wR none ws && decide ((ws.map (·.txn)).Nodup) && firstB hs ws
def metW (m : List (Int × Bool)) (ws : List Wait) : List (Int × Bool) := ws.foldl (fun m w => (w.txn, true) :: m) m
def AllTr (m : List (Int × Bool)) : Prop := ∀ p ∈ m, p.2 = true
theorem mget_tr {x : Int} : ∀ {m : List (Int × Bool)}, AllTr m → mget false m x = mhas m x
  | [], _ => rfl
  | (k, v) :: m, h => by
    have hv : v = true := h _ (List.mem_cons_self ..)
    have ih := mget_tr (x := x) (m := m) fun p hp => h p (List.mem_cons_of_mem _ hp)
    subst hv
    by_cases hk : k = x
    · simp [mget, mhas, hk]
    · simp only [mget, mhas, List.any_cons, decide_eq_false hk, Bool.false_or]
      exact ih
theorem look_tr {m : List (Int × Bool)} (h : AllTr m) {x : Int} (hx : keyIn .i64 x = true) : mlook .i64 false m x = some (mhas m x) := by
  unfold mlook
  rw [hx, ← mget_tr h]
theorem put_tr {m : List (Int × Bool)} {x : Int} (hk : keyIn .i64 x = true) (hm : m.length ≤ 1000000) : mput .i64 m x true = some ((x, true) :: m) := by
  unfold mput
  rw [hk, Nat.ble_eq_true_of_le hm]; rfl
theorem key_txn {x : Int} (h : txnB x = true) : keyIn .i64 x = true := by
  have := of_decide_eq_true h
  unfold keyIn
  simp [Lit.wf]
  exact ⟨by show -9223372036854775808 ≤ x; omega, by show x ≤ 9223372036854775807; omega⟩
theorem metW_all {m : List (Int × Bool)} (h : AllTr m) : ∀ {ws : List Wait}, AllTr (metW m ws) := fun {ws} =>
  foldl_inv (I := AllTr) h fun s x _ hs p hp => by
    rcases List.mem_cons.1 hp with rfl | hp
    · rfl
    · exact hs p hp
theorem metW_len {m : List (Int × Bool)} : ∀ {ws : List Wait}, (metW m ws).length = m.length + ws.length := by
  intro ws
  induction ws generalizing m with
  | nil => rfl
  | cons w t ih =>
    show (metW ((w.txn, true) :: m) t).length = _
    rw [ih]; simp; omega
theorem mhas_metW {x : Int} : ∀ {ws : List Wait} {m : List (Int × Bool)}, mhas (metW m ws) x = (mhas m x || decide (x ∈ ws.map (·.txn)))
  | [], m => by simp [metW]
  | w :: t, m => by
    show mhas (metW ((w.txn, true) :: m) t) x = _
    rw [mhas_metW (ws := t)]
    simp only [mhas, List.any_cons, List.map_cons, List.mem_cons]
    by_cases h : x = w.txn
    · simp [h]
    · have h' : ¬ w.txn = x := fun e => h e.symm
      simp [h, h']
def wP (r : Res) (hs : List Hold) (m : List (Int × Bool)) (ws : List Wait) (i : Nat) (w : Wait) : Bool :=
  wS r hs w && !mhas m w.txn && !decide (w.txn ∈ (ws.take i).map (·.txn)) && !((ws.take i).any (fun y => decide (y.held = 0)) && !decide (w.held = 0)) && !(decide (i = 0) && goesL hs w.txn w.mode)
theorem wP_all {r : Res} {hs : List Hold} {m : List (Int × Bool)} {ws : List Wait} : allFrom (wP r hs m ws) 0 ws = (waitersB r hs ws && ws.all fun w => !mhas m w.txn) := by
  rw [Bool.eq_iff_iff, allFrom_iff]
  unfold waitersB
  simp only [Bool.and_eq_true, chain_iff wR_trans, decide_eq_true_iff, List.all_eq_true, Nat.zero_add]
  constructor
  · intro h
    have hp : ∀ i w, ws[i]? = some w → wS r hs w = true ∧ mhas m w.txn = false ∧ w.txn ∉ (ws.take i).map (·.txn) ∧ (∀ y ∈ ws.take i, y.held = 0 → w.held = 0) ∧ (i = 0 → goesL hs w.txn w.mode = false) := fun i w hw => by
      have := h i w hw
      unfold wP at this
      simp only [Bool.and_eq_true, Bool.not_eq_true', decide_eq_false_iff_not, Bool.and_eq_false_iff] at this
      obtain ⟨⟨⟨⟨h1, h2⟩, h3⟩, h4⟩, h5⟩ := this
      refine ⟨h1, h2, h3, fun y hy hy0 => ?_, fun hi => ?_⟩
      · rcases h4 with h4 | h4
        · rw [List.any_eq_false] at h4
          exact absurd (decide_eq_true hy0) (h4 y hy)
        · simpa using h4
      · rcases h5 with h5 | h5
        · exact absurd hi h5
        · exact h5
    refine ⟨⟨⟨⟨fun w hw => ?_, pair_iff.2 fun i w hw y hy => wR_iff.2 ((hp i w hw).2.2.2.1 y hy), fun y hy => by cases hy⟩, ?_⟩, ?_⟩, fun w hw => ?_⟩
    · obtain ⟨i, hi⟩ := List.mem_iff_getElem?.1 hw
      exact (hp i w hi).1
    · have : ws.Pairwise fun a b => a.txn ≠ b.txn := pair_iff.2 fun i w hw y hy e => (hp i w hw).2.2.1 (List.mem_map.2 ⟨y, hy, e⟩)
      exact List.pairwise_map.2 this
    · cases hw : ws with
      | nil => rfl
      | cons w t =>
        have := (hp 0 w (by rw [hw]; rfl)).2.2.2.2 rfl
        simp [firstB, this]
    · obtain ⟨i, hi⟩ := List.mem_iff_getElem?.1 hw
      rw [(hp i w hi).2.1]; rfl
  · rintro ⟨⟨⟨⟨h1, h2, _⟩, h3⟩, h4⟩, h5⟩ i w hw
    have hm := List.mem_of_getElem? hw
    have h3 : ws.Pairwise fun a b => a.txn ≠ b.txn := List.pairwise_map.1 h3
    unfold wP
    simp only [Bool.and_eq_true, Bool.not_eq_true', decide_eq_false_iff_not, Bool.and_eq_false_iff]
    refine ⟨⟨⟨⟨h1 w hm, by simpa using h5 w hm⟩, fun hx => ?_⟩, ?_⟩, ?_⟩
    · obtain ⟨y, hy, e⟩ := List.mem_map.1 hx
      exact pair_iff.1 h3 i w hw y hy e
    · by_cases h0 : w.held = 0
      · right; simp [h0]
      · left
        rw [List.any_eq_false]
        intro y hy hy0
        exact h0 (wR_iff.1 (pair_iff.1 h2 i w hw y hy) (of_decide_eq_true hy0))
    · by_cases hi : i = 0
      · right
        subst hi
        cases hws : ws with
        | nil => rw [hws] at hw; cases hw
        | cons v t =>
          rw [hws] at hw h4
          simp at hw
          subst hw
          simpa [firstB] using h4
      · exact .inl hi
theorem wP_ord (a b c d e f g h : Bool) : (((((true && c && d) && !e) && f) && !a) && !b && !(g && !h)) = (!(a || b) && c && d && !e && f && !(g && !h)) := by
  cases a <;> cases b <;> cases c <;> cases d <;> cases e <;> cases f <;> rfl
set_option maxHeartbeats 2000000 in
theorem waiters_eq (n : Nat) (hn : 1003 ≤ n) (q : Queue) (hq : q.holders.length ≤ 1000) (hw : q.waiters.length ≤ 1000) (m : List (Int × Bool)) (hm : AllTr m) (hml : m.length ≤ 900000) :
    ∃ m', locks_waiters n q m = some (waitersB q.res q.holders q.waiters && (q.waiters.all fun w => !mhas m w.txn), m') ∧ ((waitersB q.res q.holders q.waiters && (q.waiters.all fun w => !mhas m w.txn)) = true → m' = metW m q.waiters) := by
  unfold locks_waiters
  show ∃ m', locks_waiters_l1 n n (false, q.waiters, (q.waiters.length : Int), ((0 : Nat) : Int), m, q, ()) = _ ∧ _
  rw [← wP_all]
  have key : ∀ (t pre : List Wait) (k : Nat), q.waiters = pre ++ t → t.length < k → ∃ m', locks_waiters_l1 n k (pre.any (fun y => decide (y.held = 0)), q.waiters, (q.waiters.length : Int), (pre.length : Int), metW m pre, q, ()) = some (allFrom (wP q.res q.holders m q.waiters) pre.length t, m') ∧ (allFrom (wP q.res q.holders m q.waiters) pre.length t = true → m' = metW m q.waiters) := by
    intro t
    induction t with
    | nil =>
      intro pre k he hk
      obtain ⟨k, rfl⟩ : ∃ k', k = k' + 1 := ⟨k - 1, by omega⟩
      rw [List.append_nil] at he
      refine ⟨metW m pre, ?_, fun _ => by rw [he]⟩
      unfold locks_waiters_l1
      simp only [loopF]
      rw [decide_eq_false (by rw [he]; omega)]; rfl
    | cons w t ih =>
      intro pre k he hk
      obtain ⟨k, rfl⟩ : ∃ k', k = k' + 1 := ⟨k - 1, by omega⟩
      have hlen : q.waiters.length = pre.length + (t.length + 1) := by rw [he]; simp
      have hx : q.waiters[pre.length]? = some w := by rw [he]; simp
      have htk : q.waiters.take pre.length = pre := by rw [he]; simp
      have hml2 : (metW m pre).length ≤ 1000000 := by rw [metW_len]; omega
      obtain ⟨r, hr⟩ : ∃ r, r = locks_waiters_l1 n k := ⟨_, rfl⟩
      have ih := fun (pre : List Wait) (he : q.waiters = pre ++ t) (hk : t.length < k) => ih pre k he hk
      rw [← hr] at ih
      unfold locks_waiters_l1 at hr ⊢
      rw [loopF, ← hr]
      clear hr
      simp only []
      rw [decide_eq_true (by omega)]
      simp only [cond_true, idx_nat, hx, Option.bind_some, txn_eq, jn, of_eq n (by omega), held_eq n hn q hq, covers_eq n (by omega), locks_conversion, goesL_eq n hn q hq, ibeq, ibne, allFrom]
      have bad : wP q.res q.holders m q.waiters pre.length w = false → ∃ m', some (false, metW m pre) = some (wP q.res q.holders m q.waiters pre.length w && allFrom (wP q.res q.holders m q.waiters) (pre.length + 1) t, m') ∧ ((wP q.res q.holders m q.waiters pre.length w && allFrom (wP q.res q.holders m q.waiters) (pre.length + 1) t) = true → m' = metW m q.waiters) := fun h => by
        rw [h]
        exact ⟨metW m pre, rfl, nofun⟩
      cases ht : txnB w.txn with
      | false =>
        simp only [cond_false, Bool.not_false, cond_true]
        exact bad (by unfold wP wS; rw [ht]; rfl)
      | true =>
        have hk1 := key_txn ht
        have good : wP q.res q.holders m q.waiters pre.length w = true → ∃ m', (mput .i64 (metW m pre) w.txn true).bind (fun l23 => cond (pre.any (fun y => decide (y.held = 0))) (r (true, q.waiters, (q.waiters.length : Int), IntKind.wrap .i64 ((pre.length : Int) + 1), l23, q, ())) (r (!!decide (w.held = 0), q.waiters, (q.waiters.length : Int), IntKind.wrap .i64 ((pre.length : Int) + 1), l23, q, ()))) = some (wP q.res q.holders m q.waiters pre.length w && allFrom (wP q.res q.holders m q.waiters) (pre.length + 1) t, m') ∧ ((wP q.res q.holders m q.waiters pre.length w && allFrom (wP q.res q.holders m q.waiters) (pre.length + 1) t) = true → m' = metW m q.waiters) := fun h => by
          obtain ⟨m', e1, e2⟩ := ih (pre ++ [w]) (by rw [he]; simp) (by simp at hk; omega)
          have e3 : metW m (pre ++ [w]) = (w.txn, true) :: metW m pre := by simp [metW]
          rw [e3, List.length_append, List.length_singleton, List.any_append] at e1
          simp only [List.any_cons, List.any_nil, Bool.or_false] at e1
          rw [List.length_append, List.length_singleton] at e2
          rw [h, Bool.true_and]
          refine ⟨m', ?_, e2⟩
          rw [put_tr hk1 hml2, Option.bind_some, wrap_succ (by omega), ← e1]
          cases pre.any (fun y => decide (y.held = 0)) with
          | true => rfl
          | false => simp
        simp only [cond_true, look_tr (metW_all hm (ws := pre)) hk1, mhas_metW, Option.bind_some]
        have hwp : wP q.res q.holders m q.waiters pre.length w = (!(mhas m w.txn || decide (w.txn ∈ pre.map (·.txn))) && modeB q.res w.mode && decide (w.held = heldL q.holders w.txn) && !coversB w.held w.mode && coversB w.mode w.held && !(pre.any (fun y => decide (y.held = 0)) && !decide (w.held = 0)) && !(decide (pre.length = 0) && goesL q.holders w.txn w.mode)) := by
          unfold wP wS
          rw [ht, htk]
          exact congrArg (· && _) (wP_ord ..)
        have h0 : decide ((pre.length : Int) = 0) = decide (pre.length = 0) := decide_eq_decide.2 (by omega)
        simp only [h0]
        simp only [hwp] at bad good ⊢
        clear hwp ih
        generalize (mhas m w.txn || decide (w.txn ∈ pre.map (·.txn))) = u at bad good ⊢
        generalize modeB q.res w.mode = md at bad good ⊢
        generalize decide (w.held = heldL q.holders w.txn) = he at bad good ⊢
        generalize coversB w.held w.mode = c1 at bad good ⊢
        generalize coversB w.mode w.held = c2 at bad good ⊢
        generalize pre.any (fun y => decide (y.held = 0)) = sn at bad good ⊢
        generalize decide (w.held = 0) = h0 at bad good ⊢
        generalize decide (pre.length = 0) = z at bad good ⊢
        generalize goesL q.holders w.txn w.mode = go at bad good ⊢
        cases u with
        | true => exact bad rfl
        | false =>
        cases md with
        | false => exact bad rfl
        | true =>
        cases he with
        | false => exact bad rfl
        | true =>
        cases c1 with
        | true => exact bad rfl
        | false =>
        cases c2 with
        | false => exact bad rfl
        | true =>
        cases sn <;> cases h0 <;> cases z <;> cases go <;> first | exact bad rfl | exact good rfl
  obtain ⟨m', e1, e2⟩ := key q.waiters [] n rfl (by omega)
  exact ⟨m', e1, e2⟩
end Go.Proofs.YtndehfninoimgaaGreat
namespace Go.Proofs.YtndehfninoimgaaGreat
open Go.Bur
set_option linter.unusedSimpArgs false
set_option linter.unusedVariables false
set_option maxRecDepth 100000
def ltQ (a b : Queue) : Bool := ltR a.res b.res
def qB (q : Queue) : Bool := resB q.res && holdersB q.res q.holders && waitersB q.res q.holders q.waiters
def wT (qs : List Queue) : List Wait := qs.flatMap (·.waiters)
def qP (qs : List Queue) (i : Nat) (q : Queue) : Bool := resB q.res && prevOk ltQ q (prevO qs i) && holdersB q.res q.holders && (waitersB q.res q.holders q.waiters && q.waiters.all fun w => !mhas (metW [] (wT (qs.take i))) w.txn)
def lockB (qs : List Queue) : Bool := decide (qs.length ≤ 500) && allFrom (qP qs) 0 qs
def SmallL (qs : List Queue) : Prop := ∀ q ∈ qs, q.holders.length ≤ 1000 ∧ q.waiters.length ≤ 1000
theorem wT_len : ∀ {qs : List Queue}, SmallL qs → (wT qs).length ≤ 1000 * qs.length
  | [], _ => by simp [wT]
  | q :: t, h => by
    have h1 := (h q (List.mem_cons_self ..)).2
    have h2 := wT_len (qs := t) fun x hx => h x (List.mem_cons_of_mem _ hx)
    show (q.waiters ++ wT t).length ≤ _
    simp only [List.length_append, List.length_cons]; omega
theorem wT_snoc (qs : List Queue) (q : Queue) : metW [] (wT (qs ++ [q])) = metW (metW [] (wT qs)) q.waiters := by
  simp [wT, metW, List.foldl_append]
theorem met_tr (ws : List Wait) : AllTr (metW [] ws) := metW_all fun p hp => by cases hp
theorem met_len (ws : List Wait) : (metW [] ws).length = ws.length := by rw [metW_len]; simp
set_option maxHeartbeats 2000000 in
theorem check_eq (n : Nat) (hn : 1003 ≤ n) (o : Locks) (hs : SmallL o.queues) : locks_Check n o = some (if lockB o.queues then 0 else 180) := by
  unfold locks_Check lockB
  by_cases hl : o.queues.length ≤ 500
  · rw [decide_eq_false (show ¬ ((o.queues.length : Int) > 500) by omega), decide_eq_true hl]
    simp only [cond_false, Bool.true_and]
    have key : ∀ (t pre : List Queue) (k : Nat), o.queues = pre ++ t → t.length < k → locks_Check_l1 n k (o.queues, (o.queues.length : Int), (pre.length : Int), o, metW [] (wT pre), ()) = some (if allFrom (qP o.queues) pre.length t then 0 else 180) := by
      intro t
      induction t with
      | nil =>
        intro pre k he hk
        obtain ⟨k, rfl⟩ : ∃ k', k = k' + 1 := ⟨k - 1, by omega⟩
        unfold locks_Check_l1
        rw [loopF]
        simp only []
        rw [decide_eq_false (by rw [he]; simp)]; rfl
      | cons q t ih =>
        intro pre k he hk
        obtain ⟨k, rfl⟩ : ∃ k', k = k' + 1 := ⟨k - 1, by omega⟩
        have hlen : o.queues.length = pre.length + (t.length + 1) := by rw [he]; simp
        have hx : o.queues[pre.length]? = some q := by rw [he]; simp
        have htk : o.queues.take pre.length = pre := by rw [he]; simp
        have hq := hs q (List.mem_of_getElem? hx)
        have hpre : SmallL pre := fun x hx => hs x (by rw [he]; exact List.mem_append_left _ hx)
        have hwl := wT_len hpre
        obtain ⟨m', e1, e2⟩ := waiters_eq n hn q hq.1 hq.2 _ (met_tr (wT pre)) (by rw [met_len]; omega)
        obtain ⟨r, hr⟩ : ∃ r, r = locks_Check_l1 n k := ⟨_, rfl⟩
        have ih := ih (pre ++ [q]) k (by rw [he]; simp) (by simp at hk; omega)
        rw [← hr, wT_snoc, List.length_append, List.length_singleton] at ih
        unfold locks_Check_l1 at hr ⊢
        rw [loopF, ← hr]
        clear hr
        simp only []
        rw [decide_eq_true (by omega)]
        have hqp : qP o.queues pre.length q = (resB q.res && prevOk ltQ q (prevO o.queues pre.length) && holdersB q.res q.holders && (waitersB q.res q.holders q.waiters && q.waiters.all fun w => !mhas (metW [] (wT pre)) w.txn)) := by unfold qP; rw [htk]
        simp only [cond_true, idx_nat, hx, Option.bind_some, locked_eq, holders_eq n hn q hq.1, e1, allFrom, hqp, wrap_succ (show pre.length < 4611686018427387904 by omega)]
        clear hqp e1 htk
        generalize (waitersB q.res q.holders q.waiters && q.waiters.all fun w => !mhas (metW [] (wT pre)) w.txn) = wb at e2 ⊢
        have fin : r (o.queues, (o.queues.length : Int), ((pre.length + 1 : Nat) : Int), o, m', ()) = some (if wb && allFrom (qP o.queues) (pre.length + 1) t then 0 else 180) ∨ wb = false := by
          cases wb with
          | false => exact .inr rfl
          | true => left; rw [e2 rfl, ih]; rfl
        have prev : (decide ((pre.length : Int) > 0) = false ∧ prevOk ltQ q (prevO o.queues pre.length) = true) ∨ (decide ((pre.length : Int) > 0) = true ∧ ∃ y, idx o.queues (IntKind.wrap .i64 ((pre.length : Int) - 1)) = some y ∧ prevOk ltQ q (prevO o.queues pre.length) = ltR y.res q.res) := by
          have hlt : pre.length < o.queues.length := by omega
          generalize pre.length = i at hlt
          cases i with
          | zero => exact .inl ⟨rfl, rfl⟩
          | succ j => exact .inr ⟨decide_eq_true (by omega), o.queues[j], by rw [wrap_pred (by omega), idx_nat, get_some], by simp only [prevO, prevOk, get_some (show j < o.queues.length by omega)]; rfl⟩
        cases resB q.res with
        | false => rfl
        | true =>
          rcases prev with ⟨p1, p2⟩ | ⟨p1, y, p2, p3⟩
          · simp only [p1, p2, Bool.not_true, cond_false, Bool.true_and]
            cases holdersB q.res q.holders with
            | false => rfl
            | true =>
              cases wb with
              | false => rfl
              | true =>
                rcases fin with fin | fin
                · exact fin
                · cases fin
          · simp only [p1, p2, p3, Bool.not_true, cond_false, cond_true, Bool.true_and, Option.bind_some, compareR n (by omega), cR_ge]
            cases ltR y.res q.res with
            | false => rfl
            | true =>
              simp only [Bool.not_true, cond_false, Bool.true_and]
              cases holdersB q.res q.holders with
              | false => rfl
              | true =>
                cases wb with
                | false => rfl
                | true =>
                  rcases fin with fin | fin
                  · exact fin
                  · cases fin
    exact key o.queues [] n rfl (by omega)
  · rw [decide_eq_true (show (o.queues.length : Int) > 500 by omega), decide_eq_false hl]; rfl
theorem allFrom_and {α : Type} {p q : Nat → α → Bool} : ∀ {l : List α} {k : Nat}, allFrom (fun i x => p i x && q i x) k l = (allFrom p k l && allFrom q k l)
  | [], _ => rfl
  | x :: t, k => by
    simp only [allFrom, allFrom_and (l := t)]
    cases p k x <;> cases q k x <;> cases allFrom p (k + 1) t <;> cases allFrom q (k + 1) t <;> rfl
theorem nodup_from {ws : List Wait} : allFrom (fun i (w : Wait) => !decide (w.txn ∈ (ws.take i).map (·.txn))) 0 ws = decide ((ws.map (·.txn)).Nodup) := by
  rw [Bool.eq_iff_iff, allFrom_iff, decide_eq_true_iff]
  show _ ↔ (ws.map (·.txn)).Pairwise (· ≠ ·)
  rw [List.pairwise_map, pair_iff]
  simp only [Nat.zero_add, Bool.not_eq_true', decide_eq_false_iff_not]
  constructor
  · intro h i x hx y hy e
    exact h i x hx (List.mem_map.2 ⟨y, hy, e⟩)
  · intro h i x hx hm
    obtain ⟨y, hy, e⟩ := List.mem_map.1 hm
    exact h i x hx y hy e
set_option maxHeartbeats 1000000 in
theorem rq2_eq (n : Nat) (hn : 1003 ≤ n) (q : Queue) (hq : q.holders.length ≤ 1000) (hw : q.waiters.length ≤ 1000) :
    ref08_RightQueue_l2 n n (q.waiters, (q.waiters.length : Int), ((0 : Nat) : Int), q, ()) = some (waitersB q.res q.holders q.waiters) := by
  unfold ref08_RightQueue_l2
  rw [run_loop q.waiters (fun i (_ : Unit) => (q.waiters, (q.waiters.length : Int), (i : Int), q, ())) (fun i w _ => if stepA (wS q.res q.holders) wR q.waiters i w && !decide (w.txn ∈ (q.waiters.take i).map (·.txn)) then .inr () else .inl (some false)) (fun _ => some (firstB q.holders q.waiters)) ?_ ?_ n 0 () (Nat.zero_le _) (by omega)]
  · rw [List.drop_zero, runL_allFrom, allFrom_and (p := stepA (wS q.res q.holders) wR q.waiters), allFrom_chain, nodup_from]
    unfold waitersB
    cases chainB (wS q.res q.holders) wR none q.waiters <;> cases decide ((q.waiters.map (·.txn)).Nodup) <;> rfl
  · intro r i s w hx hi
    have h3 : ∀ (hr : r = r), ref08_RightQueue_l3 n r n (q.waiters, (q.waiters.length : Int), (i : Int), q.waiters.take i, ((q.waiters.take i).length : Int), ((0 : Nat) : Int), q, w, ()) = if !decide (w.txn ∈ (q.waiters.take i).map (·.txn)) then r (q.waiters, (q.waiters.length : Int), ((i + 1 : Nat) : Int), q, ()) else some false := by
      intro _
      unfold ref08_RightQueue_l3
      have htl : (q.waiters.take i).length ≤ 1000 := by rw [List.length_take]; omega
      rw [run_loop (q.waiters.take i) (fun j (_ : Unit) => (q.waiters, (q.waiters.length : Int), (i : Int), q.waiters.take i, ((q.waiters.take i).length : Int), (j : Int), q, w, ())) (fun _ x _ => if !decide (x.txn = w.txn) then .inr () else .inl (some false)) (fun _ => r (q.waiters, (q.waiters.length : Int), ((i + 1 : Nat) : Int), q, ())) ?_ ?_ n 0 () (Nat.zero_le _) (by omega)]
      · rw [List.drop_zero, runL_all]
        congr 1
        rw [eq_iff_iff, List.all_eq_true, Bool.not_eq_true', decide_eq_false_iff_not, List.mem_map]
        constructor
        · rintro h ⟨y, hy, e⟩
          have := h y hy
          rw [decide_eq_true e] at this; cases this
        · intro h y hy
          rw [Bool.not_eq_true', decide_eq_false_iff_not]
          exact fun e => h ⟨y, hy, e⟩
      · intro r2 j s y hy hj
        simp only [lt_dec hj, cond_true, idx_nat, hy, Option.bind_some, ibeq, wrap_succ (show j < 4611686018427387904 by omega)]
        cases decide (y.txn = w.txn) <;> rfl
      · intro r2 s
        simp only [ge_dec (Nat.lt_irrefl _), cond_false, wrap_succ (show i < 4611686018427387904 by omega)]
    have h3 := h3 rfl
    have hsub : sub q.waiters 0 (i : Int) = some (q.waiters.take i) := by
      have := sub_ok (l := q.waiters) (a := 0) (b := i) (Nat.zero_le _) (by omega)
      simpa using this
    simp only [lt_dec hi, cond_true, idx_nat, hx, Option.bind_some, rtxn_eq, jn, rmode_eq, rheld_eq n hn q hq, rcovers_eq, ibeq, ibne, hsub]
    have h3 : ref08_RightQueue_l3 n r n (q.waiters, (q.waiters.length : Int), (i : Int), q.waiters.take i, ((q.waiters.take i).length : Int), 0, q, w, ()) = _ := h3
    simp only [h3]
    unfold stepA wS
    generalize decide (w.txn ∈ (q.waiters.take i).map (·.txn)) = du
    generalize r (q.waiters, (q.waiters.length : Int), ((i + 1 : Nat) : Int), q, ()) = rr
    have prev : (decide ((i : Int) > 0) = false ∧ prevOk wR w (prevO q.waiters i) = true) ∨ (decide ((i : Int) > 0) = true ∧ ∃ y, idx q.waiters (IntKind.wrap .i64 ((i : Int) - 1)) = some y ∧ prevOk wR w (prevO q.waiters i) = !(!decide (w.held = 0) && decide (y.held = 0))) := by
      cases i with
      | zero => exact .inl ⟨rfl, rfl⟩
      | succ j => exact .inr ⟨decide_eq_true (by omega), q.waiters[j], by rw [wrap_pred (by omega), idx_nat, get_some], by simp only [prevO, prevOk, get_some (show j < q.waiters.length by omega)]; rfl⟩
    generalize txnB w.txn = b1
    generalize modeB q.res w.mode = b2
    generalize decide (w.held = heldL q.holders w.txn) = b3
    generalize coversB w.held w.mode = b4
    generalize coversB w.mode w.held = b5
    rcases prev with ⟨p1, p2⟩ | ⟨p1, y, p2, p3⟩
    · simp only [p1, p2]
      cases b1 with
      | false => rfl
      | true =>
      cases b2 with
      | false => rfl
      | true =>
      cases b3 with
      | false => rfl
      | true =>
      cases b4 with
      | true => rfl
      | false =>
      cases b5 with
      | false => rfl
      | true => cases du <;> rfl
    · simp only [p1, p2, p3, Option.bind_some]
      generalize decide (w.held = 0) = b6
      generalize decide (y.held = 0) = b7
      cases b1 with
      | false => rfl
      | true =>
      cases b2 with
      | false => rfl
      | true =>
      cases b3 with
      | false => rfl
      | true =>
      cases b4 with
      | true => rfl
      | false =>
      cases b5 with
      | false => rfl
      | true => cases b6 <;> cases b7 <;> cases du <;> rfl
  · intro r s
    simp only [ge_dec (Nat.lt_irrefl _), cond_false, jn, ibeq]
    cases hws : q.waiters with
    | nil => rfl
    | cons w t =>
      have h0 : idx q.waiters 0 = some w := by rw [show (0 : Int) = ((0 : Nat) : Int) from rfl, idx_nat, hws]; rfl
      rw [← hws]
      simp only [h0, Option.bind_some, rgoesL_eq n hn q hq]
      rw [hws]
      rw [decide_eq_false (by simp; omega)]
      rfl
theorem rq_eq (n : Nat) (hn : 1003 ≤ n) (q : Queue) (hq : q.holders.length ≤ 1000) (hw : q.waiters.length ≤ 1000) : ref08_RightQueue n q = some (qB q) := by
  unfold ref08_RightQueue
  have h1 : ref08_RightQueue_l1 n n (q.holders, (q.holders.length : Int), 0, q, ()) = some (chainB (hB q.res q.holders) ltH none q.holders && waitersB q.res q.holders q.waiters) := by
    show ref08_RightQueue_l1 n n (q.holders, (q.holders.length : Int), ((0 : Nat) : Int), q, ()) = _
    unfold ref08_RightQueue_l1
    rw [run_loop q.holders (fun i (_ : Unit) => (q.holders, (q.holders.length : Int), (i : Int), q, ())) (fun i h _ => if stepA (hB q.res q.holders) ltH q.holders i h then .inr () else .inl (some false)) (fun _ => some (waitersB q.res q.holders q.waiters)) ?_ ?_ n 0 () (Nat.zero_le _) (by omega)]
    · rw [List.drop_zero, runL_allFrom, allFrom_chain]
      cases chainB (hB q.res q.holders) ltH none q.holders <;> rfl
    · intro r i s h hx hi
      simp only [lt_dec hi, cond_true, idx_nat, hx, Option.bind_some, rtxn_eq, jn, rmode_eq, rgoesL_eq n hn q hq, wrap_succ (show i < 4611686018427387904 by omega)]
      unfold stepA hB
      have prev : (decide ((i : Int) > 0) = false ∧ prevOk ltH h (prevO q.holders i) = true) ∨ (decide ((i : Int) > 0) = true ∧ ∃ y, idx q.holders (IntKind.wrap .i64 ((i : Int) - 1)) = some y ∧ decide (y.txn ≥ h.txn) = !prevOk ltH h (prevO q.holders i)) := by
        cases i with
        | zero => exact .inl ⟨rfl, rfl⟩
        | succ j =>
          refine .inr ⟨decide_eq_true (by omega), q.holders[j], by rw [wrap_pred (by omega), idx_nat, get_some], ?_⟩
          simp only [prevO, prevOk, get_some (show j < q.holders.length by omega)]
          unfold ltH
          by_cases hlt : q.holders[j].txn < h.txn
          · rw [decide_eq_true hlt, decide_eq_false (by omega)]; rfl
          · rw [decide_eq_false hlt, decide_eq_true (by omega)]; rfl
      rcases prev with ⟨p1, p2⟩ | ⟨p1, y, p2, p3⟩
      · simp only [p1, p2]
        cases txnB h.txn <;> cases modeB q.res h.mode <;> cases goesL q.holders h.txn h.mode <;> rfl
      · simp only [p1, p2, p3, Option.bind_some]
        cases txnB h.txn <;> cases modeB q.res h.mode <;> cases goesL q.holders h.txn h.mode <;> cases prevOk ltH h (prevO q.holders i) <;> rfl
    · intro r s
      simp only [ge_dec (Nat.lt_irrefl _), cond_false]
      exact rq2_eq n hn q hq hw
  simp only [rres_eq, Option.bind_some, jn, ibeq, h1]
  unfold qB holdersB
  cases resB q.res with
  | false => rfl
  | true =>
    cases q.holders with
    | nil => rfl
    | cons h t =>
      rw [decide_eq_false (by simp; omega)]
      rfl
def IdIn (qs : List Queue) : Prop := ∀ q ∈ qs, 0 ≤ q.res.id ∧ q.res.id < 65536
theorem wS_txn {r : Res} {hs : List Hold} {ws : List Wait} (h : waitersB r hs ws = true) : ∀ w ∈ ws, txnB w.txn = true := fun w hw => by
  unfold waitersB at h
  simp only [Bool.and_eq_true, chain_iff wR_trans] at h
  have := h.1.1.1 w hw
  unfold wS at this
  simp only [Bool.and_eq_true] at this
  exact this.1.1.1.1
theorem rmet_eq (n : Nat) (r : (List Queue) × Int × Int × Locks × (List (Int × Bool)) × Unit → Option Bool) (qs : List Queue) (L i : Int) (o : Locks) (ws : List Wait) (hw : ws.length ≤ 1000) (ht : ∀ w ∈ ws, txnB w.txn = true) (hnd : (ws.map (·.txn)).Nodup) (m : List (Int × Bool)) (hm : AllTr m) (hml : m.length ≤ 900000) (hn : ws.length < n) :
    ref08_Right_l2 n r n (qs, L, i, ws, (ws.length : Int), 0, o, m, ()) = if ws.all (fun w => !mhas m w.txn) then r (qs, L, IntKind.wrap .i64 (i + 1), o, metW m ws, ()) else some false := by
  have key : ∀ (t pre : List Wait) (k : Nat), ws = pre ++ t → t.length < k → ref08_Right_l2 n r k (qs, L, i, ws, (ws.length : Int), (pre.length : Int), o, metW m pre, ()) = if t.all (fun w => !mhas m w.txn) then r (qs, L, IntKind.wrap .i64 (i + 1), o, metW m ws, ()) else some false := by
    intro t
    induction t with
    | nil =>
      intro pre k he hk
      obtain ⟨k, rfl⟩ : ∃ k', k = k' + 1 := ⟨k - 1, by omega⟩
      rw [List.append_nil] at he
      unfold ref08_Right_l2
      rw [loopF]
      simp only []
      rw [decide_eq_false (by rw [he]; simp), he]; rfl
    | cons w t ih =>
      intro pre k he hk
      obtain ⟨k, rfl⟩ : ∃ k', k = k' + 1 := ⟨k - 1, by omega⟩
      have hlen : ws.length = pre.length + (t.length + 1) := by rw [he]; simp
      have hx : ws[pre.length]? = some w := by rw [he]; simp
      have hk1 := key_txn (ht w (List.mem_of_getElem? hx))
      have ih := ih (pre ++ [w]) k (by rw [he]; simp) (by simp at hk; omega)
      have e3 : metW m (pre ++ [w]) = (w.txn, true) :: metW m pre := by simp [metW]
      rw [e3, List.length_append, List.length_singleton] at ih
      have hnm : w.txn ∉ pre.map (·.txn) := by
        intro hmem
        rw [he, List.map_append, List.nodup_append] at hnd
        exact hnd.2.2 _ hmem _ (by simp) rfl
      have hml2 : (metW m pre).length ≤ 1000000 := by rw [metW_len]; omega
      obtain ⟨r2, hr⟩ : ∃ r2, r2 = ref08_Right_l2 n r k := ⟨_, rfl⟩
      rw [← hr] at ih
      unfold ref08_Right_l2 at hr ⊢
      rw [loopF, ← hr]
      clear hr
      simp only []
      rw [decide_eq_true (by omega)]
      simp only [cond_true, idx_nat, hx, Option.bind_some, look_tr (metW_all hm (ws := pre)) hk1, mhas_metW, decide_eq_false hnm, Bool.or_false, List.all_cons, put_tr hk1 hml2, wrap_succ (show pre.length < 4611686018427387904 by omega), ih]
      rcases Bool.eq_false_or_eq_true (mhas m w.txn) with h | h <;> simp only [h, cond_true, cond_false, Bool.not_true, Bool.not_false, Bool.false_and, Bool.true_and, Bool.false_eq_true, if_false]
  exact key ws [] n rfl hn
set_option maxHeartbeats 1000000 in
theorem rright_eq (n : Nat) (hn : 1003 ≤ n) (o : Locks) (hs : SmallL o.queues) (hi : IdIn o.queues) : ref08_Right n o = some (lockB o.queues) := by
  unfold ref08_Right lockB
  by_cases hl : o.queues.length ≤ 500
  · rw [decide_eq_false (show ¬ ((o.queues.length : Int) > 500) by omega), decide_eq_true hl]
    simp only [cond_false, Bool.true_and]
    have key : ∀ (t pre : List Queue) (k : Nat), o.queues = pre ++ t → (∀ q ∈ pre, resB q.res = true) → t.length < k → ref08_Right_l1 n k (o.queues, (o.queues.length : Int), (pre.length : Int), o, metW [] (wT pre), ()) = some (allFrom (qP o.queues) pre.length t) := by
      intro t
      induction t with
      | nil =>
        intro pre k he _ hk
        obtain ⟨k, rfl⟩ : ∃ k', k = k' + 1 := ⟨k - 1, by omega⟩
        unfold ref08_Right_l1
        rw [loopF]
        simp only []
        rw [decide_eq_false (by rw [he]; simp)]; rfl
      | cons q t ih =>
        intro pre k he hres hk
        obtain ⟨k, rfl⟩ : ∃ k', k = k' + 1 := ⟨k - 1, by omega⟩
        have hlen : o.queues.length = pre.length + (t.length + 1) := by rw [he]; simp
        have hx : o.queues[pre.length]? = some q := by rw [he]; simp
        have htk : o.queues.take pre.length = pre := by rw [he]; simp
        have hqm := List.mem_of_getElem? hx
        have hq := hs q hqm
        have hpre : SmallL pre := fun x hx => hs x (by rw [he]; exact List.mem_append_left _ hx)
        have hwl := wT_len hpre
        obtain ⟨r, hr⟩ : ∃ r, r = ref08_Right_l1 n k := ⟨_, rfl⟩
        have ih := fun h => ih (pre ++ [q]) k (by rw [he]; simp) h (by simp at hk; omega)
        rw [← hr, wT_snoc, List.length_append, List.length_singleton] at ih
        unfold ref08_Right_l1 at hr ⊢
        rw [loopF, ← hr]
        clear hr
        simp only []
        rw [decide_eq_true (by omega)]
        have hqp : qP o.queues pre.length q = (resB q.res && prevOk ltQ q (prevO o.queues pre.length) && holdersB q.res q.holders && (waitersB q.res q.holders q.waiters && q.waiters.all fun w => !mhas (metW [] (wT pre)) w.txn)) := by unfold qP; rw [htk]
        simp only [cond_true, idx_nat, hx, Option.bind_some, rq_eq n hn q hq.1 hq.2, allFrom, hqp, jn]
        cases hqb : qB q with
        | false =>
          have : (resB q.res && prevOk ltQ q (prevO o.queues pre.length) && holdersB q.res q.holders && (waitersB q.res q.holders q.waiters && q.waiters.all fun w => !mhas (metW [] (wT pre)) w.txn)) = false := by
            unfold qB at hqb
            revert hqb
            cases resB q.res <;> cases holdersB q.res q.holders <;> cases waitersB q.res q.holders q.waiters <;> cases prevOk ltQ q (prevO o.queues pre.length) <;> simp
          rw [this]; rfl
        | true =>
          unfold qB at hqb
          simp only [Bool.and_eq_true] at hqb
          obtain ⟨⟨b1, b2⟩, b3⟩ := hqb
          have hnd : (q.waiters.map (·.txn)).Nodup := by
            unfold waitersB at b3
            simp only [Bool.and_eq_true, decide_eq_true_iff] at b3
            exact b3.1.2
          have hmet := rmet_eq n r o.queues (o.queues.length : Int) (pre.length : Int) o q.waiters hq.2 (wS_txn b3) hnd _ (met_tr (wT pre)) (by rw [met_len]; omega) (by omega)
          rw [wrap_succ (show pre.length < 4611686018427387904 by omega), ih fun x hx => (List.mem_append.1 hx).elim (hres x) fun h => by rw [List.mem_singleton.1 h]; exact b1] at hmet
          have prev : (decide ((pre.length : Int) > 0) = false ∧ prevOk ltQ q (prevO o.queues pre.length) = true) ∨ (decide ((pre.length : Int) > 0) = true ∧ ∃ y, idx o.queues (IntKind.wrap .i64 ((pre.length : Int) - 1)) = some y ∧ y ∈ pre ∧ prevOk ltQ q (prevO o.queues pre.length) = ltR y.res q.res) := by
            have hmem : ∀ j, (hj : j < o.queues.length) → j < pre.length → o.queues[j] ∈ pre := fun j hj h => by
              have : o.queues[j]? = pre[j]? := by rw [he, List.getElem?_append_left h]
              rw [get_some hj, get_some h] at this
              rw [Option.some.inj this]; exact List.getElem_mem h
            have hlt : pre.length < o.queues.length := by omega
            generalize pre.length = i at hlt hmem
            cases i with
            | zero => exact .inl ⟨rfl, rfl⟩
            | succ j => exact .inr ⟨decide_eq_true (by omega), o.queues[j], by rw [wrap_pred (by omega), idx_nat, get_some], hmem j (by omega) (by omega), by simp only [prevO, prevOk, get_some (show j < o.queues.length by omega)]; rfl⟩
          simp only [Bool.not_true, cond_false, b1, b2, b3, Bool.true_and, Bool.and_true]
          rcases prev with ⟨p1, p2⟩ | ⟨p1, y, p2, p4, p3⟩
          · simp only [p1, p2, cond_false, hmet, Bool.true_and]
            cases q.waiters.all fun w => !mhas (metW [] (wT pre)) w.txn <;> rfl
          · simp only [p1, p2, p3, cond_true, Option.bind_some, order_eq n _ (hres y p4) (hi y (by rw [he]; exact List.mem_append_left _ p4)), order_eq n _ b1 (hi q hqm), ord_ge (hres y p4) b1 (hi y (by rw [he]; exact List.mem_append_left _ p4)) (hi q hqm), hmet]
            cases ltR y.res q.res with
            | false => rfl
            | true =>
              simp only [Bool.not_true, cond_false, Bool.true_and]
              cases q.waiters.all fun w => !mhas (metW [] (wT pre)) w.txn <;> rfl
    exact key o.queues [] n rfl nofun (by omega)
  · rw [decide_eq_true (show (o.queues.length : Int) > 500 by omega), decide_eq_false hl]; rfl
end Go.Proofs.YtndehfninoimgaaGreat
namespace Go.Proofs.YtndehfninoimgaaGreat
open Go.Bur
set_option linter.unusedSimpArgs false
set_option linter.unusedVariables false
set_option maxRecDepth 100000
theorem getA {zs : List Int} {m : Nat} (h : m < zs.length) : zs.toArray[m]! = zs[m] := by
  rw [getElem!_pos zs.toArray m (by simpa using h)]; simp
theorem cp_from {zs : List Int} (hs : zs.Pairwise (· ≤ ·)) : ∀ m, m ≤ zs.length → (Go.Lib.compactUpTo zs.toArray m).Pairwise (· < ·) ∧ ∀ x, x ∈ Go.Lib.compactUpTo zs.toArray m ↔ ∃ j, j < m ∧ zs[j]? = some x
  | 0, _ => by simp [Go.Lib.compactUpTo]
  | m + 1, hm => by
    obtain ⟨h1, h2⟩ := cp_from hs m (by omega)
    have hmono : ∀ i j (hi : i < zs.length) (hj : j < zs.length), i < j → zs[i] ≤ zs[j] := List.pairwise_iff_getElem.1 hs
    have hsplit : ∀ x, (∃ j, j < m + 1 ∧ zs[j]? = some x) ↔ (∃ j, j < m ∧ zs[j]? = some x) ∨ x = zs[m] := fun x => by
      constructor
      · rintro ⟨j, hj, e⟩
        by_cases hjm : j = m
        · subst hjm
          rw [get_some (by omega)] at e
          exact .inr (Option.some.inj e).symm
        · exact .inl ⟨j, by omega, e⟩
      · rintro (⟨j, hj, e⟩ | rfl)
        · exact ⟨j, by omega, e⟩
        · exact ⟨m, by omega, get_some (by omega)⟩
    rw [Go.Lib.compactUpTo_succ]
    by_cases hk : Go.Lib.keeps zs.toArray m = true
    · rw [if_pos hk, getA (by omega)]
      refine ⟨List.pairwise_append.2 ⟨h1, List.pairwise_singleton _ _, fun a ha b hb => ?_⟩, fun x => ?_⟩
      · rw [List.mem_singleton] at hb
        subst hb
        obtain ⟨j, hj, e⟩ := (h2 a).1 ha
        rw [get_some (by omega)] at e
        obtain rfl := Option.some.inj e
        have h3 := hmono j m (by omega) (by omega) hj
        unfold Go.Lib.keeps at hk
        rw [decide_eq_true_iff] at hk
        rcases hk with hk | hk
        · omega
        · rw [getA (by omega), getA (by omega)] at hk
          by_cases hjm : j = m - 1
          · subst hjm; omega
          · have h4 := hmono j (m - 1) (by omega) (by omega) (by omega)
            have h5 := hmono (m - 1) m (by omega) (by omega) (by omega)
            omega
      · rw [hsplit, List.mem_append, h2, List.mem_singleton]
    · rw [if_neg hk, List.append_nil]
      refine ⟨h1, fun x => ?_⟩
      rw [hsplit, h2]
      unfold Go.Lib.keeps at hk
      rw [decide_eq_true_iff] at hk
      have hm0 : m ≠ 0 := fun e => hk (.inl e)
      have he : zs[m] = zs[m - 1] := Classical.byContradiction fun e => hk (.inr (by rw [getA (by omega), getA (by omega)]; exact e))
      constructor
      · exact .inl
      · rintro (h | rfl)
        · exact h
        · exact ⟨m - 1, by omega, by rw [get_some (by omega), he]⟩
theorem cp_sort (l : List Int) : (cpZ (sortZ l)).Pairwise (· < ·) ∧ ∀ x, x ∈ cpZ (sortZ l) ↔ x ∈ l := by
  unfold cpZ Go.Lib.compact
  obtain ⟨h1, h2⟩ := cp_from (sortZ_le l) (sortZ l).length (Nat.le_refl _)
  refine ⟨h1, fun x => ?_⟩
  rw [h2, ← mem_sortZ (l := l), List.mem_iff_getElem?]
  constructor
  · rintro ⟨j, _, e⟩; exact ⟨j, e⟩
  · rintro ⟨j, e⟩
    exact ⟨j, (List.getElem?_eq_some_iff.1 e).1, e⟩
theorem cpt_eq (n : Nat) (l : List Int) (h : l.length ≤ 1000000) : slices_Compact_int n l = some (cpZ l) := by
  unfold slices_Compact_int
  rw [Nat.ble_eq_true_of_le (by omega)]
theorem srt_eq (n : Nat) (l : List Int) (h : l.length ≤ 1000000) : slices_Sort_int n l = some (sortZ l) := by
  unfold slices_Sort_int
  rw [Nat.ble_eq_true_of_le (by omega)]
def occ (t : Int) : Nat → List Wait → Option (Nat × Wait)
  | _, [] => none
  | b, w :: r => if decide (w.txn = t) then some (b, w) else occ t (b + 1) r
def occQ (t : Int) : Nat → List Queue → Option (Nat × Queue × Nat × Wait)
  | _, [] => none
  | i, q :: r => match occ t 0 q.waiters with
    | some (b, w) => some (i, q, b, w)
    | none => occQ t (i + 1) r
theorem occ_some {t : Int} : ∀ {ws : List Wait} {k b : Nat} {w : Wait}, occ t k ws = some (b, w) → ∃ j, b = k + j ∧ ws[j]? = some w ∧ w.txn = t
  | [], _, _, _, h => by cases h
  | v :: r, k, b, w, h => by
    unfold occ at h
    split at h
    · rename_i hv
      cases h
      exact ⟨0, rfl, rfl, of_decide_eq_true hv⟩
    · obtain ⟨j, h1, h2, h3⟩ := occ_some h
      exact ⟨j + 1, by omega, by simpa using h2, h3⟩
theorem occ_none {t : Int} : ∀ {ws : List Wait} {k : Nat}, occ t k ws = none → ∀ w ∈ ws, w.txn ≠ t
  | [], _, _ => nofun
  | v :: r, k, h => by
    unfold occ at h
    split at h
    · cases h
    · rename_i hv
      intro w hw
      rcases List.mem_cons.1 hw with rfl | hw
      · exact fun e => hv (decide_eq_true e)
      · exact occ_none h w hw
theorem occQ_some {t : Int} : ∀ {qs : List Queue} {k i b : Nat} {q : Queue} {w : Wait}, occQ t k qs = some (i, q, b, w) → (∃ j, i = k + j ∧ qs[j]? = some q) ∧ q.waiters[b]? = some w ∧ w.txn = t
  | [], _, _, _, _, _, h => by cases h
  | v :: r, k, i, b, q, w, h => by
    unfold occQ at h
    split at h
    · rename_i b' w' hv
      cases h
      obtain ⟨j, h1, h2, h3⟩ := occ_some hv
      rw [Nat.zero_add] at h1
      subst h1
      exact ⟨⟨0, rfl, rfl⟩, h2, h3⟩
    · obtain ⟨⟨j, h1, h2⟩, h3⟩ := occQ_some h
      exact ⟨⟨j + 1, by omega, by simpa using h2⟩, h3⟩
theorem indexW (n : Nat) (hn : 1003 ≤ n) (ws : List Wait) (hw : ws.length ≤ 1000) (t : Int) : slices_IndexFunc_Wait_f88 n ws t = some (match occ t 0 ws with | some (b, _) => (b : Int) | none => -1) := by
  unfold slices_IndexFunc_Wait_f88
  show slices_IndexFunc_Wait_f88_l1 n n (ws, t, (ws.length : Int), ((0 : Nat) : Int), ()) = _
  unfold slices_IndexFunc_Wait_f88_l1
  have key : ∀ (l : List Wait) (k : Nat), runL (fun i (w : Wait) (_ : Unit) => if decide (w.txn = t) then .inl (some (i : Int)) else .inr ()) (fun _ => some (-1)) l k () = some (match occ t k l with | some (b, _) => (b : Int) | none => -1) := by
    intro l
    induction l with
    | nil => intro k; rfl
    | cons w r ih =>
      intro k
      unfold occ
      cases h : decide (w.txn = t) with
      | true => simp [runL, h]
      | false => simp only [runL, h, Bool.false_eq_true, if_false]; exact ih (k + 1)
  rw [run_loop ws (fun i (_ : Unit) => (ws, t, (ws.length : Int), (i : Int), ())) (fun i w _ => if decide (w.txn = t) then .inl (some (i : Int)) else .inr ()) (fun _ => some (-1)) ?_ ?_ n 0 () (Nat.zero_le _) (by omega)]
  · rw [List.drop_zero]; exact key ws 0
  · intro r i s y hy hi
    simp only [lt_dec hi, cond_true, idx_nat, hy, Option.bind_some, locks_waits_1, ibeq, wrap_succ (show i < 4611686018427387904 by omega)]
    cases decide (y.txn = t) <;> rfl
  · intro r s
    simp only [ge_dec (Nat.lt_irrefl _), cond_false]
theorem waits_eq (n : Nat) (hn : 1003 ≤ n) (o : Locks) (hs : SmallL o.queues) (hq : o.queues.length ≤ 1000) (t : Int) : locks_waits n o t = some (match occQ t 0 o.queues with | some (i, _, b, _) => ((i : Int), (b : Int), true) | none => (0, 0, false)) := by
  unfold locks_waits
  show locks_waits_l1 n n (o.queues, (o.queues.length : Int), ((0 : Nat) : Int), t, ()) = _
  unfold locks_waits_l1
  have key : ∀ (l : List Queue) (k : Nat), runL (fun i (q : Queue) (_ : Unit) => match occ t 0 q.waiters with | some (b, _) => .inl (some ((i : Int), (b : Int), true)) | none => .inr ()) (fun _ => some (0, 0, false)) l k () = some (match occQ t k l with | some (i, _, b, _) => ((i : Int), (b : Int), true) | none => (0, 0, false)) := by
    intro l
    induction l with
    | nil => intro k; rfl
    | cons q r ih =>
      intro k
      unfold occQ
      cases h : occ t 0 q.waiters with
      | some x => simp [runL, h]
      | none => simp only [runL, h]; exact ih (k + 1)
  rw [run_loop o.queues (fun i (_ : Unit) => (o.queues, (o.queues.length : Int), (i : Int), t, ())) (fun i q _ => match occ t 0 q.waiters with | some (b, _) => .inl (some ((i : Int), (b : Int), true)) | none => .inr ()) (fun _ => some (0, 0, false)) ?_ ?_ n 0 () (Nat.zero_le _) (by omega)]
  · rw [List.drop_zero]; exact key _ 0
  · intro r i s q hy hi
    simp only [lt_dec hi, cond_true, idx_nat, hy, Option.bind_some, indexW n hn q.waiters (hs q (List.mem_of_getElem? hy)).2, wrap_succ (show i < 4611686018427387904 by omega)]
    cases occ t 0 q.waiters with
    | none => rfl
    | some x =>
      obtain ⟨b, w⟩ := x
      simp only [show ((b : Int) ≥ 0) by omega, decide_true, cond_true]
  · intro r s
    simp only [ge_dec (Nat.lt_irrefl _), cond_false]
def blk (q : Queue) (b : Nat) (w : Wait) (t : Int) : List Int := (q.holders.filter fun h => !decide (h.txn = t) && !goesB h.mode w.mode).map (·.txn) ++ (q.waiters.take b).map (·.txn)
def blkL (qs : List Queue) (t : Int) : List Int := match occQ t 0 qs with
  | some (_, q, b, w) => if lockB qs then cpZ (sortZ (blk q b w t)) else []
  | none => []
theorem foldl_app {α : Type} {f : α → Int} : ∀ {l : List α} {s : List Int}, l.foldl (fun s x => s ++ [f x]) s = s ++ l.map f
  | [], s => by simp
  | x :: l, s => by rw [List.foldl_cons, foldl_app]; simp
theorem foldl_appF {α : Type} {p : α → Bool} {f : α → Int} : ∀ {l : List α} {s : List Int}, l.foldl (fun s x => if p x then s ++ [f x] else s) s = s ++ (l.filter p).map f
  | [], s => by simp
  | x :: l, s => by
    rw [List.foldl_cons, foldl_appF]
    cases h : p x <;> simp [h]
theorem blockers_eq (n : Nat) (hn : 3003 ≤ n) (o : Locks) (hs : SmallL o.queues) (hq : o.queues.length ≤ 1000) (t : Int) : locks_Blockers n o t = some (blkL o.queues t) := by
  unfold locks_Blockers blkL
  rw [waits_eq n (by omega) o hs hq t, Option.bind_some]
  cases hoc : occQ t 0 o.queues with
  | none => rfl
  | some x =>
    obtain ⟨i, q, b, w⟩ := x
    obtain ⟨⟨j, hij, hqi⟩, hwb, hwt⟩ := occQ_some hoc
    rw [Nat.zero_add] at hij
    subst hij
    have hqm := hs q (List.mem_of_getElem? hqi)
    have hb : b < q.waiters.length := (List.getElem?_eq_some_iff.1 hwb).1
    simp only [Bool.not_true, cond_false, check_eq n (by omega) o hs, Option.bind_some, jn, idx_nat, hqi]
    cases hl : lockB o.queues with
    | false => rfl
    | true =>
      simp only [if_true, bne_self_eq_false, cond_false]
      show locks_Blockers_l1 n n (t, (b : Int), q.holders, (q.holders.length : Int), ((0 : Nat) : Int), q, [], ()) = _
      unfold locks_Blockers_l1
      rw [run_loopI q.holders (fun i (s : List Int) => (t, (b : Int), q.holders, (q.holders.length : Int), (i : Int), q, s, ())) (fun _ h s => .inr (if !decide (h.txn = t) && !goesB h.mode w.mode then s ++ [h.txn] else s)) (fun s => some (cpZ (sortZ (s ++ (q.waiters.take b).map (·.txn))))) (fun i s => s.length ≤ i) ?_ ?_ ?_ n 0 [] (Nat.zero_le _) (by omega) (Nat.le_refl _)]
      · rw [List.drop_zero, runL_fold (g := fun (h : Hold) s => if !decide (h.txn = t) && !goesB h.mode w.mode then s ++ [h.txn] else s), foldl_appF]
        rfl
      · intro i s h s' hx hI he
        cases he
        split
        · simp; omega
        · omega
      · intro r i s h hx hi hI
        simp only [lt_dec hi, cond_true, idx_nat, hx, Option.bind_some, jn, locks_Blockers_j2, ibne, hwb, goes_eq n (by omega), wrap_succ (show i < 4611686018427387904 by omega), app_lt (show s.length + [h.txn].length ≤ 1000000 by simp; omega) (show 8 ≤ 1000 by omega)]
        cases decide (h.txn = t) <;> cases goesB h.mode w.mode <;> rfl
      · intro r s hI
        have hsub : sub q.waiters 0 (b : Int) = some (q.waiters.take b) := by
          have := sub_ok (l := q.waiters) (a := 0) (b := b) (Nat.zero_le _) (by omega)
          simpa using this
        simp only [ge_dec (Nat.lt_irrefl _), cond_false, hsub, Option.bind_some]
        have htl : (q.waiters.take b).length ≤ 1000 := by rw [List.length_take]; omega
        have hI : s.length ≤ q.holders.length := hI
        show locks_Blockers_l3 n n (q.waiters.take b, ((q.waiters.take b).length : Int), ((0 : Nat) : Int), s, ()) = _
        unfold locks_Blockers_l3
        rw [run_loopI (q.waiters.take b) (fun i (s : List Int) => (q.waiters.take b, ((q.waiters.take b).length : Int), (i : Int), s, ())) (fun _ h s => .inr (s ++ [h.txn])) (fun s => some (cpZ (sortZ s))) (fun i s => s.length ≤ 1000 + i) ?_ ?_ ?_ n 0 s (Nat.zero_le _) (by omega) (by omega)]
        · rw [List.drop_zero, runL_fold (g := fun (h : Wait) s => s ++ [h.txn]), foldl_app]
        · intro i s h s' hx hI he
          cases he
          simp; omega
        · intro r i s h hx hi hI
          simp only [lt_dec hi, cond_true, idx_nat, hx, Option.bind_some, wrap_succ (show i < 4611686018427387904 by omega), app_lt (show s.length + [h.txn].length ≤ 1000000 by simp; omega) (show 8 ≤ 1000 by omega)]
        · intro r s hI
          have hI : s.length ≤ 1000 + (q.waiters.take b).length := hI
          simp only [ge_dec (Nat.lt_irrefl _), cond_false, srt_eq n s (by omega), Option.bind_some, cpt_eq n (sortZ s) (by rw [sortZ_len]; omega)]
end Go.Proofs.YtndehfninoimgaaGreat
namespace Go.Proofs.YtndehfninoimgaaGreat
open Go.Bur
set_option linter.unusedSimpArgs false
set_option linter.unusedVariables false
set_option maxRecDepth 100000
def SmallM (qs : List Queue) : Prop := ∀ q ∈ qs, q.holders.length ≤ 30 ∧ q.waiters.length ≤ 30
theorem SmallM.l {qs : List Queue} (h : SmallM qs) : SmallL qs := fun q hq => by have := h q hq; omega
theorem lock_len {qs : List Queue} (h : lockB qs = true) : qs.length ≤ 500 := by
  unfold lockB at h
  rw [Bool.and_eq_true, decide_eq_true_iff] at h
  exact h.1
theorem lock_q {qs : List Queue} (h : lockB qs = true) : ∀ q ∈ qs, qB q = true := fun q hq => by
  unfold lockB at h
  rw [Bool.and_eq_true, allFrom_iff] at h
  obtain ⟨i, hi⟩ := List.mem_iff_getElem?.1 hq
  have := h.2 i q hi
  unfold qP at this
  simp only [Bool.and_eq_true] at this
  unfold qB
  simp only [Bool.and_eq_true]
  exact ⟨⟨this.1.1.1, this.1.2⟩, this.2.1⟩
theorem wnod_q {q : Queue} (h : qB q = true) : (q.waiters.map (·.txn)).Nodup := by
  unfold qB waitersB at h
  simp only [Bool.and_eq_true, decide_eq_true_iff] at h
  exact h.2.1.2
theorem nod_from {qs : List Queue} : ∀ (t pre : List Queue), qs = pre ++ t → allFrom (qP qs) pre.length t = true → ((wT pre).map (·.txn)).Nodup → ((wT qs).map (·.txn)).Nodup
  | [], pre, he, _, h => by rw [he, List.append_nil]; exact h
  | q :: t, pre, he, ha, h => by
    rw [allFrom, Bool.and_eq_true] at ha
    have hq := ha.1
    unfold qP at hq
    rw [show qs.take pre.length = pre by rw [he]; simp] at hq
    simp only [Bool.and_eq_true, List.all_eq_true, mhas_metW] at hq
    refine nod_from t (pre ++ [q]) (by rw [he]; simp) (by rw [List.length_append]; exact ha.2) ?_
    have e : wT (pre ++ [q]) = wT pre ++ q.waiters := by simp [wT]
    rw [e, List.map_append, List.nodup_append]
    refine ⟨h, wnod_q (by unfold qB; simp only [Bool.and_eq_true]; exact ⟨⟨hq.1.1.1, hq.1.2⟩, hq.2.1⟩), fun a ha' b hb e => ?_⟩
    subst e
    obtain ⟨w, hw, rfl⟩ := List.mem_map.1 hb
    have := hq.2.2 w hw
    rw [decide_eq_true ha'] at this
    simp at this
theorem lock_nod {qs : List Queue} (h : lockB qs = true) : ((wT qs).map (·.txn)).Nodup := by
  unfold lockB at h
  rw [Bool.and_eq_true] at h
  exact nod_from qs [] rfl h.2 (by simp [wT])
def metI (m : List (Int × Bool)) (l : List Int) : List (Int × Bool) := l.foldl (fun m x => (x, true) :: m) m
def foldI {α σ : Type} (g : Nat → α → σ → σ) : Nat → List α → σ → σ
  | _, [], s => s
  | i, x :: r, s => foldI g (i + 1) r (g i x s)
theorem runL_foldI {α σ R : Type} {g : Nat → α → σ → σ} {fin : σ → Option R} : ∀ (l : List α) (i : Nat) (s : σ), runL (fun i x s => .inr (g i x s)) fin l i s = fin (foldI g i l s)
  | [], _, _ => rfl
  | x :: l, i, s => runL_foldI l (i + 1) _
def stB (q : Queue) (t : Int) (b : Nat) (w : Wait) (m : List (Int × Bool)) : List (Int × Bool) := if decide (w.txn = t) then metI m (blk q b w t) else m
end Go.Proofs.YtndehfninoimgaaGreat
namespace Go.Proofs.YtndehfninoimgaaGreat
open Go.Bur
set_option linter.unusedSimpArgs false
set_option linter.unusedVariables false
set_option maxRecDepth 100000
def eqL {α : Type} (e : α → α → Bool) : List α → List α → Bool
  | [], [] => true
  | x :: a, y :: b => e x y && eqL e a b
  | _, _ => false
def atE {α : Type} (e : α → α → Bool) (b : List α) (i : Nat) (x : α) : Bool := match b[i]? with
  | some y => e x y
  | none => false
theorem eqL_len {α : Type} {e : α → α → Bool} : ∀ {a b : List α}, a.length ≠ b.length → eqL e a b = false
  | [], [], h => absurd rfl h
  | x :: a, y :: b, h => by
    have := eqL_len (e := e) (a := a) (b := b) (fun k => h (by simp [k]))
    simp [eqL, this]
  | [], _ :: _, _ => rfl
  | _ :: _, [], _ => rfl
theorem eqL_from {α : Type} {e : α → α → Bool} {b : List α} : ∀ {a : List α} {k : Nat}, a.length = (b.drop k).length → allFrom (atE e b) k a = eqL e a (b.drop k)
  | [], k, h => by
    have : b.drop k = [] := List.eq_nil_of_length_eq_zero h.symm
    rw [this]; rfl
  | x :: a, k, h => by
    have hk : k < b.length := by
      rw [List.length_drop, List.length_cons] at h; omega
    rw [List.drop_eq_getElem_cons hk, allFrom, eqL, ← eqL_from (a := a) (k := k + 1) (by rw [List.length_drop] at *; simp at h; omega)]
    unfold atE
    rw [get_some hk]
theorem eqL_zero {α : Type} {e : α → α → Bool} {a b : List α} (h : a.length = b.length) : allFrom (atE e b) 0 a = eqL e a b := eqL_from (by simpa using h)
theorem eqL_refl {α : Type} {e : α → α → Bool} (he : ∀ x, e x x = true) : ∀ a : List α, eqL e a a = true
  | [] => rfl
  | x :: a => by simp [eqL, he, eqL_refl he a]
def qE (p q : Queue) : Bool := Res.eqb p.res q.res && eqL Hold.eqb p.holders q.holders && eqL Wait.eqb p.waiters q.waiters
theorem rsame_eq (n : Nat) (hn : 1003 ≤ n) (a b : Locks) (ha : SmallL a.queues) (hl : a.queues.length ≤ 1000) : ref08_Same n a b = some (eqL qE a.queues b.queues) := by
  unfold ref08_Same
  rw [ineN]
  by_cases h : a.queues.length = b.queues.length
  · rw [decide_eq_true h]
    show ref08_Same_l1 n n (a.queues, (a.queues.length : Int), ((0 : Nat) : Int), b, ()) = _
    unfold ref08_Same_l1
    rw [run_loop a.queues (fun i (_ : Unit) => (a.queues, (a.queues.length : Int), (i : Int), b, ())) (fun i x _ => if atE qE b.queues i x then .inr () else .inl (some false)) (fun _ => some true) ?_ ?_ n 0 () (Nat.zero_le _) (by omega)]
    · rw [List.drop_zero, runL_allFrom, eqL_zero h]
      cases eqL qE a.queues b.queues <;> rfl
    · intro r i s p hx hi
      have hp := ha p (List.mem_of_getElem? hx)
      simp only [lt_dec hi, cond_true, idx_nat, hx, get_some (show i < b.queues.length by omega), Option.bind_some, jn, ineN, atE]
      generalize b.queues[i] = q
      unfold qE
      cases hr : Res.eqb p.res q.res with
      | false => rfl
      | true =>
        by_cases h1 : p.holders.length = q.holders.length
        · by_cases h2 : p.waiters.length = q.waiters.length
          · simp only [decide_eq_true h1, decide_eq_true h2, Bool.not_true, cond_false, Bool.true_and]
            have h3 : ref08_Same_l3 n r n (a.queues, (a.queues.length : Int), (i : Int), (p.waiters.length : Int), ((0 : Nat) : Int), b, p, q, ()) = if eqL Wait.eqb p.waiters q.waiters then r (a.queues, (a.queues.length : Int), ((i + 1 : Nat) : Int), b, ()) else some false := by
              unfold ref08_Same_l3
              rw [run_loop p.waiters (fun k (_ : Unit) => (a.queues, (a.queues.length : Int), (i : Int), (p.waiters.length : Int), (k : Int), b, p, q, ())) (fun k x _ => if atE Wait.eqb q.waiters k x then .inr () else .inl (some false)) (fun _ => r (a.queues, (a.queues.length : Int), ((i + 1 : Nat) : Int), b, ())) ?_ ?_ n 0 () (Nat.zero_le _) (by omega)]
              · rw [List.drop_zero, runL_allFrom, eqL_zero h2]
              · intro r2 k s x hy hk
                simp only [lt_dec hk, cond_true, idx_nat, hy, get_some (show k < q.waiters.length by omega), Option.bind_some, atE, wrap_succ (show k < 4611686018427387904 by omega)]
                cases Wait.eqb x q.waiters[k] <;> rfl
              · intro r2 s
                simp only [ge_dec (Nat.lt_irrefl _), cond_false, wrap_succ (show i < 4611686018427387904 by omega)]
            have h4 : ref08_Same_l2 n r n (a.queues, (a.queues.length : Int), (i : Int), (p.holders.length : Int), ((0 : Nat) : Int), b, p, q, ()) = if eqL Hold.eqb p.holders q.holders then (if eqL Wait.eqb p.waiters q.waiters then r (a.queues, (a.queues.length : Int), ((i + 1 : Nat) : Int), b, ()) else some false) else some false := by
              unfold ref08_Same_l2
              rw [run_loop p.holders (fun k (_ : Unit) => (a.queues, (a.queues.length : Int), (i : Int), (p.holders.length : Int), (k : Int), b, p, q, ())) (fun k x _ => if atE Hold.eqb q.holders k x then .inr () else .inl (some false)) (fun _ => if eqL Wait.eqb p.waiters q.waiters then r (a.queues, (a.queues.length : Int), ((i + 1 : Nat) : Int), b, ()) else some false) ?_ ?_ n 0 () (Nat.zero_le _) (by omega)]
              · rw [List.drop_zero, runL_allFrom, eqL_zero h1]
              · intro r2 k s x hy hk
                simp only [lt_dec hk, cond_true, idx_nat, hy, get_some (show k < q.holders.length by omega), Option.bind_some, atE, wrap_succ (show k < 4611686018427387904 by omega)]
                cases Hold.eqb x q.holders[k] <;> rfl
              · intro r2 s
                simp only [ge_dec (Nat.lt_irrefl _), cond_false]
                exact h3
            have h4 : ref08_Same_l2 n r n (a.queues, (a.queues.length : Int), (i : Int), (p.holders.length : Int), 0, b, p, q, ()) = _ := h4
            rw [h4]
            cases eqL Hold.eqb p.holders q.holders <;> cases eqL Wait.eqb p.waiters q.waiters <;> rfl
          · rw [decide_eq_true h1, decide_eq_false h2, eqL_len (e := Wait.eqb) h2, Bool.and_false]; rfl
        · rw [decide_eq_false h1, eqL_len (e := Hold.eqb) h1]; rfl
    · intro r s
      simp only [ge_dec (Nat.lt_irrefl _), cond_false]
  · rw [decide_eq_false h, eqL_len h]; rfl
theorem qE_refl (q : Queue) : qE q q = true := by
  have h1 : ∀ x, Hold.eqb x x = true := fun x => by simp [Hold.eqb]
  have h2 : ∀ x, Wait.eqb x x = true := fun x => by simp [Wait.eqb]
  unfold qE
  rw [eqL_refl h1, eqL_refl h2]
  simp [Res.eqb]
theorem rwaitsC_eq (n : Nat) (hn : 1003 ≤ n) (o : Locks) (hs : SmallL o.queues) (hq : o.queues.length ≤ 1000) (t : Int) : ref08_Waits n o t = some (match occQ t 0 o.queues with | some (_, q, _, w) => (q.res, w.mode, true) | none => (Res.mk 0 false 0, 0, false)) := by
  unfold ref08_Waits
  show ref08_Waits_l1 n n (t, o.queues, (o.queues.length : Int), ((0 : Nat) : Int), Res.mk 0 false 0, ()) = _
  unfold ref08_Waits_l1
  have key : ∀ (l : List Queue) (k : Nat), runL (fun i (q : Queue) (_ : Unit) => match occ t 0 q.waiters with | some (_, w) => .inl (some (q.res, w.mode, true)) | none => .inr ()) (fun _ => some (Res.mk 0 false 0, (0 : Int), false)) l k () = some (match occQ t k l with | some (_, q, _, w) => (q.res, w.mode, true) | none => (Res.mk 0 false 0, 0, false)) := by
    intro l
    induction l with
    | nil => intro k; rfl
    | cons q r ih =>
      intro k
      unfold occQ
      cases h : occ t 0 q.waiters with
      | some x => simp [runL, h]
      | none => simp only [runL, h]; exact ih (k + 1)
  rw [run_loop o.queues (fun i (_ : Unit) => (t, o.queues, (o.queues.length : Int), (i : Int), Res.mk 0 false 0, ())) (fun i q _ => match occ t 0 q.waiters with | some (_, w) => .inl (some (q.res, w.mode, true)) | none => .inr ()) (fun _ => some (Res.mk 0 false 0, (0 : Int), false)) ?_ ?_ n 0 () (Nat.zero_le _) (by omega)]
  · rw [List.drop_zero]; exact key _ 0
  · intro r i s q hy hi
    have hw := (hs q (List.mem_of_getElem? hy)).2
    simp only [lt_dec hi, cond_true, idx_nat, hy, Option.bind_some]
    show ref08_Waits_l2 n r n (t, o.queues, (o.queues.length : Int), (i : Int), q.waiters, (q.waiters.length : Int), ((0 : Nat) : Int), Res.mk 0 false 0, q, ()) = _
    unfold ref08_Waits_l2
    have key2 : ∀ (l : List Wait) (k : Nat), runL (fun i (w : Wait) (_ : Unit) => if decide (w.txn = t) then .inl (some (q.res, w.mode, true)) else .inr ()) (fun _ => r (t, o.queues, (o.queues.length : Int), ((i + 1 : Nat) : Int), Res.mk 0 false 0, ())) l k () = match occ t k l with | some (_, w) => some (q.res, w.mode, true) | none => r (t, o.queues, (o.queues.length : Int), ((i + 1 : Nat) : Int), Res.mk 0 false 0, ()) := by
      intro l
      induction l with
      | nil => intro k; rfl
      | cons w t' ih =>
        intro k
        unfold occ
        cases h : decide (w.txn = t) with
        | true => simp [runL, h]
        | false => simp only [runL, h, Bool.false_eq_true, if_false]; exact ih (k + 1)
    rw [run_loop q.waiters (fun k (_ : Unit) => (t, o.queues, (o.queues.length : Int), (i : Int), q.waiters, (q.waiters.length : Int), (k : Int), Res.mk 0 false 0, q, ())) (fun k w _ => if decide (w.txn = t) then .inl (some (q.res, w.mode, true)) else .inr ()) (fun _ => r (t, o.queues, (o.queues.length : Int), ((i + 1 : Nat) : Int), Res.mk 0 false 0, ())) ?_ ?_ n 0 () (Nat.zero_le _) (by omega)]
    · rw [List.drop_zero, key2]
      cases occ t 0 q.waiters with
      | none => rfl
      | some x => rfl
    · intro r2 k s w hw2 hk
      simp only [lt_dec hk, cond_true, idx_nat, hw2, Option.bind_some, ibeq, wrap_succ (show k < 4611686018427387904 by omega)]
      cases decide (w.txn = t) <;> rfl
    · intro r2 s
      simp only [ge_dec (Nat.lt_irrefl _), cond_false, wrap_succ (show i < 4611686018427387904 by omega)]
  · intro r s
    simp only [ge_dec (Nat.lt_irrefl _), cond_false]
theorem lock_srt {qs : List Queue} (h : lockB qs = true) : qs.Pairwise fun a b => ltQ a b = true := by
  unfold lockB at h
  rw [Bool.and_eq_true, allFrom_iff] at h
  have h1 : allFrom (stepA (fun _ => true) ltQ qs) 0 qs = true := allFrom_iff.2 fun i q hq => by
    have := h.2 i q hq
    unfold qP at this
    simp only [Bool.and_eq_true] at this
    unfold stepA
    rw [Bool.true_and]
    exact this.1.1.2
  rw [allFrom_chain, chain_iff (fun a b c => ltR_trans a.res b.res c.res)] at h1
  exact h1.2.1
theorem eqb_res {a b : Res} (h : Res.eqb a b = true) : a = b := by
  obtain ⟨a1, a2, a3⟩ := a
  obtain ⟨b1, b2, b3⟩ := b
  simp only [Res.eqb, Bool.and_true, Bool.and_eq_true, beq_iff_eq] at h
  obtain ⟨h1, h2, h3⟩ := h
  subst h1 h2 h3
  rfl
end Go.Proofs.YtndehfninoimgaaGreat
namespace Go.Proofs.YtndehfninoimgaaGreat
open Go.Bur
set_option linter.unusedSimpArgs false
set_option linter.unusedVariables false
set_option maxRecDepth 100000
theorem cloneQ (n : Nat) (l : List Queue) (hl : l.length ≤ 1000) : slices_Clone_Queue n l = some l := clone_eq (by omega) (by omega)
theorem cloneH (n : Nat) (l : List Hold) (hl : l.length ≤ 1000) : slices_Clone_Hold n l = some l := clone_eq (by omega) (by omega)
theorem cloneW (n : Nat) (l : List Wait) (hl : l.length ≤ 1000) : slices_Clone_Wait n l = some l := clone_eq (by omega) (by omega)
theorem idxM_at {α : Type} {l : List α} {i : Nat} {x : α} (h : l[i]? = some x) : idxM l (i : Int) i = some x := by
  unfold idxM
  rw [if_pos rfl, idx_nat, h]
theorem sameI_at (i : Int) : sameI i i = some () := by
  unfold sameI
  rw [if_pos rfl]
theorem sameN_at (i : Nat) : sameN i i = some () := by
  unfold sameN
  rw [if_pos rfl]
theorem set_mk {qs : List Queue} {i : Nat} {q : Queue} (h : qs[i]? = some q) : List.set qs (Int.toNat (i : Int)) (Queue.mk q.res q.holders q.waiters) = qs := by
  rw [Int.toNat_natCast]
  exact set_same h
theorem with56 (n : Nat) (hn : 1003 ≤ n) (o : Locks) (hs : SmallL o.queues) (hq : o.queues.length ≤ 1000) (t : Int) (r : Res) (m a b : Int) :
    locks_with_f56 n o t r m a b = if lockB o.queues then (if txnB t then (locks_Ask_1 n o.queues r m a b).bind fun y => cond (y.1 != 0) (some (Locks.mk [], y.1, y.2.1, y.2.2.1, y.2.2.2.1, y.2.2.2.2.1)) (some (Locks.mk y.2.2.2.2.2, 0, y.2.1, y.2.2.1, y.2.2.2.1, y.2.2.2.2.1)) else some (Locks.mk [], 2, r, m, a, b)) else some (Locks.mk [], 180, r, m, a, b) := by
  unfold locks_with_f56
  rw [check_eq n hn o hs, Option.bind_some]
  cases hl : lockB o.queues with
  | false => rfl
  | true =>
    simp only [if_true, bne_self_eq_false, cond_false, txn_eq, Option.bind_some, cloneQ n _ hq]
    cases ht : txnB t with
    | false => rfl
    | true =>
      simp only [Bool.not_true, cond_false, if_true]
      show locks_with_f56_l1 n n ((o.queues.length : Int), ((0 : Nat) : Int), r, m, a, b, Locks.mk [], 0, o.queues, ()) = _
      unfold locks_with_f56_l1
      rw [run_loop o.queues (fun i (_ : Unit) => ((o.queues.length : Int), (i : Int), r, m, a, b, Locks.mk [], i, o.queues, ())) (fun _ _ s => .inr s) (fun _ => (locks_Ask_1 n o.queues r m a b).bind fun y => cond (y.1 != 0) (some (Locks.mk [], y.1, y.2.1, y.2.2.1, y.2.2.2.1, y.2.2.2.2.1)) (some (Locks.mk y.2.2.2.2.2, 0, y.2.1, y.2.2.1, y.2.2.2.1, y.2.2.2.2.1))) ?_ ?_ n 0 () (Nat.zero_le _) (by omega)]
      · rw [List.drop_zero, runL_skip]
      · intro r2 i s q hx hi
        have hqq := hs q (List.mem_of_getElem? hx)
        simp only [lt_dec hi, cond_true, idxM_at hx, Option.bind_some, sameI_at, cloneH n _ hqq.1, cloneW n _ hqq.2, set_mk hx, wrap_succ (show i < 4611686018427387904 by omega)]
      · intro r2 s
        simp only [ge_dec (Nat.lt_irrefl _), cond_false, sameN_at, Option.bind_some]
theorem with66 (n : Nat) (hn : 1003 ≤ n) (o : Locks) (hs : SmallL o.queues) (hq : o.queues.length ≤ 1000) (t a : Int) (b : List Int) :
    locks_with_f66 n o t a b = if lockB o.queues then (if txnB t then (locks_Release_1 n o.queues a b).bind fun y => cond (y.1 != 0) (some (Locks.mk [], y.1, y.2.1, y.2.2.1)) (some (Locks.mk y.2.2.2, 0, y.2.1, y.2.2.1)) else some (Locks.mk [], 2, a, b)) else some (Locks.mk [], 180, a, b) := by
  unfold locks_with_f66
  rw [check_eq n hn o hs, Option.bind_some]
  cases hl : lockB o.queues with
  | false => rfl
  | true =>
    simp only [if_true, bne_self_eq_false, cond_false, txn_eq, Option.bind_some, cloneQ n _ hq]
    cases ht : txnB t with
    | false => rfl
    | true =>
      simp only [Bool.not_true, cond_false, if_true]
      show locks_with_f66_l1 n n ((o.queues.length : Int), ((0 : Nat) : Int), a, b, Locks.mk [], 0, o.queues, ()) = _
      unfold locks_with_f66_l1
      rw [run_loop o.queues (fun i (_ : Unit) => ((o.queues.length : Int), (i : Int), a, b, Locks.mk [], i, o.queues, ())) (fun _ _ s => .inr s) (fun _ => (locks_Release_1 n o.queues a b).bind fun y => cond (y.1 != 0) (some (Locks.mk [], y.1, y.2.1, y.2.2.1)) (some (Locks.mk y.2.2.2, 0, y.2.1, y.2.2.1))) ?_ ?_ n 0 () (Nat.zero_le _) (by omega)]
      · rw [List.drop_zero, runL_skip]
      · intro r2 i s q hx hi
        have hqq := hs q (List.mem_of_getElem? hx)
        simp only [lt_dec hi, cond_true, idxM_at hx, Option.bind_some, sameI_at, cloneH n _ hqq.1, cloneW n _ hqq.2, set_mk hx, wrap_succ (show i < 4611686018427387904 by omega)]
      · intro r2 s
        simp only [ge_dec (Nat.lt_irrefl _), cond_false, sameN_at, Option.bind_some]
theorem ask_step {n : Nat} (hn : 1003 ≤ n) {o : Locks} (hs : SmallL o.queues) (hq : o.queues.length ≤ 1000) {t m m' t' w : Int} {r r' : Res} {qs : List Queue} (hl : lockB o.queues = true) (ht : txnB t = true) (h : locks_Ask_1 n o.queues r m t 0 = some (0, r', m', t', w, qs)) : locks_Ask n o t r m = some (Locks.mk qs, w, 0) := by
  unfold locks_Ask
  rw [with56 n hn o hs hq, if_pos hl, if_pos ht, h]
  rfl
theorem release_step {n : Nat} (hn : 1003 ≤ n) {o : Locks} (hs : SmallL o.queues) (hq : o.queues.length ≤ 1000) {t t' : Int} {g : List Int} {qs : List Queue} (hl : lockB o.queues = true) (ht : txnB t = true) (h : locks_Release_1 n o.queues t [] = some (0, t', g, qs)) : locks_Release n o t = some (Locks.mk qs, g, 0) := by
  unfold locks_Release
  rw [with66 n hn o hs hq, if_pos hl, if_pos ht, h]
  rfl
end Go.Proofs.YtndehfninoimgaaGreat
namespace Go.Proofs.YtndehfninoimgaaGreat
open Go.Bur
set_option linter.unusedSimpArgs false
set_option linter.unusedVariables false
set_option maxRecDepth 100000
abbrev cH (t : Int) : Hold → Int := fun h => cmpT h.txn t
theorem cmpT_lt {a b : Int} : cmpT a b < 0 ↔ a < b := by unfold cmpT; split <;> (try split) <;> omega
theorem cmpT_zero {a b : Int} : cmpT a b = 0 ↔ a = b := by unfold cmpT; split <;> (try split) <;> omega
theorem cmpT_pos {a b : Int} : 0 < cmpT a b ↔ b < a := by unfold cmpT; split <;> (try split) <;> omega
def SrtH (hs : List Hold) : Prop := hs.Pairwise fun a b => a.txn < b.txn
theorem cutH {hs : List Hold} (t : Int) (h : SrtH hs) : ∃ A y B, Cut (cH t) hs A y B := by
  refine cut_ex (h.imp fun {a b} hab ha => ?_)
  have h1 : ¬ a.txn < t := fun k => by have := cmpT_lt.2 k; unfold cH at ha; omega
  exact cmpT_pos.2 (by omega)
theorem byTxnH_eq (n : Nat) (h : Hold) (t : Int) : locks_byTxn n h t = some (cH t h) := by
  unfold locks_byTxn
  rw [cmpT_int]; rfl
theorem halfH {x : Nat} (h : x < 4611686018427387904) : shrP .u64 (IntKind.wrap .u64 (IntKind.wrap .i64 (x : Int))) 1 = some ((x / 2 : Nat) : Int) ∧ IntKind.wrap .i64 ((x / 2 : Nat) : Int) = ((x / 2 : Nat) : Int) := by
  have e0 : IntKind.wrap .i64 (x : Int) = x := wrap_in (by omega)
  rw [e0]
  have e : IntKind.wrap .u64 (x : Int) = x := by rw [IntKind.wrap_u64]; omega
  rw [e]
  have e2 : shrV .u64 (x : Int) 1 = ((x / 2 : Nat) : Int) := by
    unfold shrV
    have e3 : (2 : Int) ^ (min (Int.toNat 1) (IntKind.u64.bits)) = 2 := by decide
    rw [e3, Int.fdiv_eq_ediv_of_nonneg _ (by decide)]
    omega
  refine ⟨?_, wrap_in (by omega)⟩
  unfold shrP
  rw [if_pos (by decide), e2]
theorem hsearch {n : Nat} (hn : 1003 ≤ n) {l A B : List Hold} {y : Option Hold} {t : Int} (h : Cut (cH t) l A y B) (hl : l.length ≤ 1000) :
    slices_BinarySearchFunc_int_f105 n l t = some ((A.length : Int), y.isSome) := by
  have hlen := cut_len h
  show slices_BinarySearchFunc_int_f105_l1 n n (l, t, (l.length : Int), ((0 : Nat) : Int), (l.length : Int), ()) = _
  unfold slices_BinarySearchFunc_int_f105_l1
  refine bsearch (fun (i j : Nat) => (l, t, (l.length : Int), (i : Int), (j : Int), ())) A.length l.length _ (fun r i j hij hj hA => ?_) (fun r i j hij hj hA => ?_) (fun r => ?_) n 0 l.length (Nat.zero_le _) (by omega) (Nat.le_refl _) (by omega)
  · have e : ((i : Int) + (j : Int)) = ((i + j : Nat) : Int) := by omega
    obtain ⟨e1, e2⟩ := halfH (x := i + j) (by omega)
    have := cut_lt h (show (i + j) / 2 < l.length by omega) hA
    simp only [lt_dec hij, cond_true, e, e1, Option.bind_some, e2, idx_nat, get_some (show (i + j) / 2 < l.length by omega), byTxnH_eq n, jn, slices_BinarySearchFunc_int_f105_j2, decide_eq_true this, wrap_succ (show (i + j) / 2 < 4611686018427387904 by omega)]
  · have e : ((i : Int) + (j : Int)) = ((i + j : Nat) : Int) := by omega
    obtain ⟨e1, e2⟩ := halfH (x := i + j) (by omega)
    have := cut_ge h (show (i + j) / 2 < l.length by omega) hA
    simp only [lt_dec hij, cond_true, e, e1, Option.bind_some, e2, idx_nat, get_some (show (i + j) / 2 < l.length by omega), byTxnH_eq n, jn, slices_BinarySearchFunc_int_f105_j2, decide_eq_false this, cond_false]
  · simp only [ge_dec (Nat.lt_irrefl _), cond_false, jn]
    by_cases hA : A.length < l.length
    · simp only [lt_dec hA, cond_true, idx_nat, get_some hA, Option.bind_some, byTxnH_eq n, cut_at h hA]
    · rw [ge_dec hA, cut_end h hA]; rfl
def insH (hs : List Hold) (t m : Int) : List Hold := (hs.filter fun h => decide (h.txn < t)) ++ Hold.mk t m :: hs.filter fun h => decide (t < h.txn)
theorem cut_insH {hs A B : List Hold} {y : Option Hold} {t : Int} (h : Cut (cH t) hs A y B) (m : Int) : insH hs t m = A ++ Hold.mk t m :: B := by
  have ha : ∀ x ∈ A, x.txn < t := fun x hx => cmpT_lt.1 (h.lo x hx)
  have hb : ∀ x ∈ B, t < x.txn := fun x hx => cmpT_pos.1 (h.hi x hx)
  have hy : ∀ x ∈ y.toList, x.txn = t := fun x hx => cmpT_zero.1 (h.mid x (by simpa using hx))
  have f1 : (A.filter fun h => decide (h.txn < t)) = A := List.filter_eq_self.2 fun x hx => decide_eq_true (ha x hx)
  have f2 : (A.filter fun h => decide (t < h.txn)) = [] := List.filter_eq_nil_iff.2 fun x hx => by have := ha x hx; simp; omega
  have f3 : (B.filter fun h => decide (h.txn < t)) = [] := List.filter_eq_nil_iff.2 fun x hx => by have := hb x hx; simp; omega
  have f4 : (B.filter fun h => decide (t < h.txn)) = B := List.filter_eq_self.2 fun x hx => decide_eq_true (hb x hx)
  have f5 : (y.toList.filter fun h => decide (h.txn < t)) = [] := List.filter_eq_nil_iff.2 fun x hx => by have := hy x hx; simp; omega
  have f6 : (y.toList.filter fun h => decide (t < h.txn)) = [] := List.filter_eq_nil_iff.2 fun x hx => by have := hy x hx; simp; omega
  unfold insH
  rw [h.eq]
  simp only [List.filter_append, f1, f2, f3, f4, f5, f6, List.nil_append, List.append_nil]
theorem mem_insH {hs : List Hold} {t m : Int} {x : Hold} : x ∈ insH hs t m ↔ x = Hold.mk t m ∨ (x ∈ hs ∧ x.txn ≠ t) := by
  unfold insH
  simp only [List.mem_append, List.mem_cons, List.mem_filter, decide_eq_true_iff]
  constructor
  · rintro (⟨h, k⟩ | h | ⟨h, k⟩)
    · exact .inr ⟨h, by omega⟩
    · exact .inl h
    · exact .inr ⟨h, by omega⟩
  · rintro (h | ⟨h, k⟩)
    · exact .inr (.inl h)
    · by_cases hl : x.txn < t
      · exact .inl ⟨h, hl⟩
      · exact .inr (.inr ⟨h, by omega⟩)
theorem srt_insH {hs : List Hold} {t m : Int} (h : SrtH hs) : SrtH (insH hs t m) := by
  unfold SrtH insH
  rw [List.pairwise_append]
  refine ⟨h.filter _, List.pairwise_cons.2 ⟨fun x hx => of_decide_eq_true (List.mem_filter.1 hx).2, h.filter _⟩, fun a ha b hb => ?_⟩
  have h1 : a.txn < t := of_decide_eq_true (List.mem_filter.1 ha).2
  rcases List.mem_cons.1 hb with rfl | hb
  · exact h1
  · have h2 : t < b.txn := of_decide_eq_true (List.mem_filter.1 hb).2
    omega
theorem insH_len {hs : List Hold} {t m : Int} (h : SrtH hs) : (insH hs t m).length ≤ hs.length + 1 := by
  obtain ⟨A, y, B, hc⟩ := cutH t h
  have := cut_len hc
  rw [cut_insH hc, List.length_append, List.length_cons]
  omega
theorem holdsA_eq (n : Nat) (hn : 1003 ≤ n) {hs : List Hold} (h : SrtH hs) (hl : hs.length ≤ 900) (t m a c : Int) (b : Bool) (ws : List Wait) : locks_holds n t m a b c hs ws = some (a, b, c, insH hs t m, ws) := by
  obtain ⟨A, y, B, hc⟩ := cutH t h
  have hlen := cut_len hc
  unfold locks_holds
  rw [hsearch hn hc (by omega), Option.bind_some, cut_insH hc]
  have hh := hc
  obtain ⟨he, _, hmid, _⟩ := hc
  cases y with
  | none =>
    simp only [Option.isSome_none, Bool.not_false, cond_true, slices_Insert_Hold, jn, locks_holds_j1]
    rw [insL_cut hh (Hold.mk t 0) (by omega) (by omega)]
    simp only [Option.bind_some, idx_app, put_app]
  | some z =>
    have hz : z.txn = t := cmpT_zero.1 (hmid z rfl)
    simp only [Option.isSome_some, Bool.not_true, cond_false, jn, locks_holds_j1]
    rw [he]
    simp only [Option.toList_some, List.singleton_append, Option.bind_some, idx_app, put_app, hz]
def pumpL : List Hold → List Wait → List Hold × List Wait × List Int
  | hs, [] => (hs, [], [])
  | hs, w :: ws => if goesL hs w.txn w.mode then ((pumpL (insH hs w.txn w.mode) ws).1, (pumpL (insH hs w.txn w.mode) ws).2.1, w.txn :: (pumpL (insH hs w.txn w.mode) ws).2.2) else (hs, w :: ws, [])
theorem pump_len : ∀ {ws : List Wait} {hs : List Hold}, SrtH hs → (pumpL hs ws).1.length + (pumpL hs ws).2.1.length ≤ hs.length + ws.length ∧ (pumpL hs ws).2.2.length + (pumpL hs ws).2.1.length = ws.length
  | [], hs, h => by simp [pumpL]
  | w :: ws, hs, h => by
    have h1 := pump_len (ws := ws) (srt_insH (t := w.txn) (m := w.mode) h)
    have h2 := insH_len (t := w.txn) (m := w.mode) h
    unfold pumpL
    split
    · simp only [List.length_cons]; omega
    · simp
def pullQ (t : Int) (all : Bool) (q : Queue) : List Hold × List Wait × List Int := pumpL (if all then q.holders.filter fun h => !decide (h.txn = t) else q.holders) (q.waiters.filter fun w => !decide (w.txn = t))
def leftQ (t : Int) (all : Bool) (q : Queue) : Queue := Queue.mk q.res (pullQ t all q).1 (pullQ t all q).2.1
def leftL (t : Int) (all : Bool) (qs : List Queue) : List Queue := (qs.map (leftQ t all)).filter fun q => !decide (q.holders.length = 0)
def grantL (t : Int) (all : Bool) (qs : List Queue) : List Int := qs.flatMap fun q => (pullQ t all q).2.2
end Go.Proofs.YtndehfninoimgaaGreat
namespace Go.Proofs.YtndehfninoimgaaGreat
open Go.Bur
set_option linter.unusedSimpArgs false
set_option linter.unusedVariables false
set_option maxRecDepth 100000
theorem held_mem {hs : List Hold} (h : SrtH hs) {x : Hold} (hx : x ∈ hs) : heldL hs x.txn = x.mode := by
  unfold heldL
  induction hs with
  | nil => cases hx
  | cons y t ih =>
    obtain ⟨h1, h2⟩ := List.pairwise_cons.1 h
    rw [List.find?_cons]
    rcases List.mem_cons.1 hx with rfl | hx
    · rw [decide_eq_true rfl]; rfl
    · have := h1 x hx
      rw [decide_eq_false (by omega)]
      exact ih h2 hx
theorem held_none {hs : List Hold} {t : Int} (h : ∀ x ∈ hs, x.txn ≠ t) : heldL hs t = 0 := by
  unfold heldL
  have : hs.find? (fun x => decide (x.txn = t)) = none := List.find?_eq_none.2 fun x hx => by simpa using h x hx
  rw [this]; rfl
theorem held_some {hs : List Hold} {t : Int} (h : heldL hs t ≠ 0) : ∃ x ∈ hs, x.txn = t ∧ x.mode = heldL hs t := by
  unfold heldL at h ⊢
  cases hf : hs.find? (fun x => decide (x.txn = t)) with
  | none => rw [hf] at h; exact absurd rfl h
  | some x => exact ⟨x, List.mem_of_find?_eq_some hf, by simpa using List.find?_some hf, rfl⟩
theorem held_ext {hs gs : List Hold} (h : SrtH hs) (g : SrtH gs) {t : Int} (he : ∀ x, x.txn = t → (x ∈ hs ↔ x ∈ gs)) : heldL hs t = heldL gs t := by
  by_cases hx : ∃ x ∈ hs, x.txn = t
  · obtain ⟨x, hx, rfl⟩ := hx
    rw [held_mem h hx, held_mem g ((he x rfl).1 hx)]
  · rw [held_none fun x hx' e => hx ⟨x, hx', e⟩, held_none fun x hx' e => hx ⟨x, (he x e).2 hx', e⟩]
theorem held_ins {hs : List Hold} (h : SrtH hs) {t m x : Int} (hx : x ≠ t) : heldL (insH hs t m) x = heldL hs x := by
  refine held_ext (srt_insH h) h fun y hy => ?_
  rw [mem_insH]
  constructor
  · rintro (rfl | ⟨h, _⟩)
    · exact absurd hy.symm hx
    · exact h
  · intro h; exact .inr ⟨h, by omega⟩
theorem held_del {hs : List Hold} (h : SrtH hs) {t x : Int} (hx : x ≠ t) : heldL (hs.filter fun y => !decide (y.txn = t)) x = heldL hs x := by
  refine held_ext (h.filter _) h fun y hy => ?_
  rw [List.mem_filter]
  exact ⟨fun h => h.1, fun h => ⟨h, by simp; omega⟩⟩
theorem goesB_comm (a b : Int) : goesB a b = goesB b a := by
  unfold goesB
  rw [Bool.eq_iff_iff]
  simp only [Bool.and_eq_true, Bool.or_eq_true, decide_eq_true_iff]
  constructor <;> (rintro ⟨⟨h1, h2⟩, h3⟩; exact ⟨⟨h2, h1⟩, by omega⟩)
theorem goesL_iff {hs : List Hold} {t m : Int} : goesL hs t m = true ↔ ∀ x ∈ hs, x.txn = t ∨ goesB x.mode m = true := by
  unfold goesL
  rw [List.all_eq_true]
  simp only [Bool.or_eq_true, decide_eq_true_iff]
structure PV (r : Res) (hs : List Hold) (ws : List Wait) : Prop where
  srt : SrtH hs
  ok : ∀ h ∈ hs, txnB h.txn = true ∧ modeB r h.mode = true
  fit : ∀ h ∈ hs, goesL hs h.txn h.mode = true
  wok : ∀ w ∈ ws, wS r hs w = true
  wr : ws.Pairwise fun a b => wR a b = true
  nd : (ws.map (·.txn)).Nodup
theorem wS_iff {r : Res} {hs : List Hold} {w : Wait} : wS r hs w = true ↔ txnB w.txn = true ∧ modeB r w.mode = true ∧ w.held = heldL hs w.txn ∧ coversB w.held w.mode = false ∧ coversB w.mode w.held = true := by
  unfold wS
  simp only [Bool.and_eq_true, decide_eq_true_iff, Bool.not_eq_true']
  constructor
  · rintro ⟨⟨⟨⟨a, b⟩, c⟩, d⟩, e⟩; exact ⟨a, b, c, d, e⟩
  · rintro ⟨a, b, c, d, e⟩; exact ⟨⟨⟨⟨a, b⟩, c⟩, d⟩, e⟩
theorem qB_iff {q : Queue} : qB q = true ↔ resB q.res = true ∧ q.holders ≠ [] ∧ PV q.res q.holders q.waiters ∧ firstB q.holders q.waiters = true := by
  unfold qB holdersB waitersB
  simp only [Bool.and_eq_true, chain_iff ltH_trans, chain_iff wR_trans, decide_eq_true_iff, Bool.not_eq_true', List.isEmpty_eq_false_iff]
  have hlt : (q.holders.Pairwise fun a b => ltH a b = true) ↔ SrtH q.holders := by
    unfold SrtH ltH
    simp only [decide_eq_true_iff]
  rw [hlt]
  constructor
  · rintro ⟨⟨h1, h2, h3, h4, _⟩, ⟨⟨h5, h6, _⟩, h7⟩, h8⟩
    refine ⟨h1, h2, ⟨h4, fun h hh => ?_, fun h hh => ?_, h5, h6, h7⟩, h8⟩
    · have := h3 h hh
      unfold hB at this
      simp only [Bool.and_eq_true] at this
      exact this.1
    · have := h3 h hh
      unfold hB at this
      simp only [Bool.and_eq_true] at this
      exact this.2
  · rintro ⟨h1, h2, h3, h4⟩
    refine ⟨⟨h1, h2, fun h hh => ?_, h3.srt, nofun⟩, ⟨⟨h3.wok, h3.wr, nofun⟩, h3.nd⟩, h4⟩
    unfold hB
    simp only [Bool.and_eq_true]
    exact ⟨h3.ok h hh, h3.fit h hh⟩
theorem PV.del {r : Res} {hs : List Hold} {ws : List Wait} (h : PV r hs ws) (t : Int) (all : Bool) : PV r (if all then hs.filter fun x => !decide (x.txn = t) else hs) (ws.filter fun w => !decide (w.txn = t)) := by
  have hsub : ∀ x, x ∈ (if all then hs.filter fun x => !decide (x.txn = t) else hs) → x ∈ hs := fun x hx => by
    cases all with
    | true => exact (List.mem_filter.1 hx).1
    | false => exact hx
  have hsrt : SrtH (if all then hs.filter fun x => !decide (x.txn = t) else hs) := by
    cases all with
    | true => exact h.srt.filter _
    | false => exact h.srt
  refine ⟨hsrt, fun x hx => h.ok x (hsub x hx), fun x hx => goesL_iff.2 fun y hy => goesL_iff.1 (h.fit x (hsub x hx)) y (hsub y hy), fun w hw => ?_, h.wr.filter _, ?_⟩
  · obtain ⟨hw, hne⟩ := List.mem_filter.1 hw
    have hne : w.txn ≠ t := by simpa using hne
    obtain ⟨a, b, c, d⟩ := wS_iff.1 (h.wok w hw)
    refine wS_iff.2 ⟨a, b, ?_, d⟩
    rw [c]
    cases all with
    | true => exact (held_del h.srt hne).symm
    | false => rfl
  · exact h.nd.sublist ((List.filter_sublist).map _)
theorem PV.grant {r : Res} {hs : List Hold} {w : Wait} {ws : List Wait} (h : PV r hs (w :: ws)) (hg : goesL hs w.txn w.mode = true) : PV r (insH hs w.txn w.mode) ws := by
  obtain ⟨a, b, c, d, e⟩ := wS_iff.1 (h.wok w (List.mem_cons_self ..))
  have hnd : w.txn ∉ ws.map (·.txn) ∧ (ws.map (·.txn)).Nodup := List.nodup_cons.1 h.nd
  have hwr := List.pairwise_cons.1 h.wr
  refine ⟨srt_insH h.srt, fun x hx => ?_, fun x hx => goesL_iff.2 fun y hy => ?_, fun v hv => ?_, hwr.2, hnd.2⟩
  · rcases mem_insH.1 hx with rfl | ⟨hx, _⟩
    · exact ⟨a, b⟩
    · exact h.ok x hx
  · rcases mem_insH.1 hx with rfl | ⟨hx, hxn⟩
    · rcases mem_insH.1 hy with rfl | ⟨hy, hyn⟩
      · exact .inl rfl
      · exact goesL_iff.1 hg y hy
    · rcases mem_insH.1 hy with rfl | ⟨hy, hyn⟩
      · right
        rw [goesB_comm]
        exact (goesL_iff.1 hg x hx).resolve_left hxn
      · exact goesL_iff.1 (h.fit x hx) y hy
  · obtain ⟨a', b', c', d'⟩ := wS_iff.1 (h.wok v (List.mem_cons_of_mem _ hv))
    refine wS_iff.2 ⟨a', b', ?_, d'⟩
    have hne : v.txn ≠ w.txn := fun e => hnd.1 (by rw [← e]; exact List.mem_map.2 ⟨v, hv, rfl⟩)
    rw [held_ins h.srt hne]
    exact c'
theorem PV.pump {r : Res} : ∀ {ws : List Wait} {hs : List Hold}, PV r hs ws → PV r (pumpL hs ws).1 (pumpL hs ws).2.1 ∧ firstB (pumpL hs ws).1 (pumpL hs ws).2.1 = true
  | [], hs, h => ⟨h, rfl⟩
  | w :: ws, hs, h => by
    unfold pumpL
    cases hg : goesL hs w.txn w.mode with
    | true => exact (h.grant hg).pump
    | false =>
      simp only [Bool.false_eq_true, if_false]
      exact ⟨h, by simp [firstB, hg]⟩
theorem pump_sub : ∀ {ws : List Wait} {hs : List Hold}, (pumpL hs ws).2.1.Sublist ws
  | [], hs => List.Sublist.refl _
  | w :: ws, hs => by
    unfold pumpL
    split
    · exact (pump_sub (ws := ws)).cons w
    · exact List.Sublist.refl _
theorem left_q {q : Queue} (h : qB q = true) (t : Int) (all : Bool) (hne : (leftQ t all q).holders ≠ []) : qB (leftQ t all q) = true := by
  obtain ⟨h1, h2, h3, h4⟩ := qB_iff.1 h
  have hp := (h3.del t all).pump
  exact qB_iff.2 ⟨h1, hne, hp.1, hp.2⟩
theorem lockB_of {qs : List Queue} (h1 : qs.length ≤ 500) (h2 : ∀ q ∈ qs, qB q = true) (h3 : qs.Pairwise fun a b => ltQ a b = true) (h4 : ((wT qs).map (·.txn)).Nodup) : lockB qs = true := by
  unfold lockB
  rw [Bool.and_eq_true, decide_eq_true_iff, allFrom_iff]
  refine ⟨h1, fun i q hq => ?_⟩
  have hm := List.mem_of_getElem? hq
  have hqb := h2 q hm
  unfold qB at hqb
  simp only [Bool.and_eq_true] at hqb
  have hch : chainB (fun _ => true) ltQ none qs = true := (chain_iff (fun a b c => ltR_trans a.res b.res c.res)).2 ⟨fun _ _ => rfl, h3, nofun⟩
  rw [← allFrom_chain, allFrom_iff] at hch
  have hp := hch i q hq
  unfold stepA at hp
  rw [Bool.true_and] at hp
  rw [Nat.zero_add] at hp ⊢
  unfold qP
  simp only [Bool.and_eq_true, List.all_eq_true, mhas_metW]
  refine ⟨⟨⟨hqb.1.1, hp⟩, hqb.1.2⟩, hqb.2, fun w hw => ?_⟩
  have hlt := (List.getElem?_eq_some_iff.1 hq).1
  have hsplit : qs = qs.take i ++ q :: qs.drop (i + 1) := by
    have := List.take_append_drop i qs
    rw [List.drop_eq_getElem_cons hlt, (List.getElem?_eq_some_iff.1 hq).2] at this
    exact this.symm
  rw [hsplit] at h4
  have e : wT (qs.take i ++ q :: qs.drop (i + 1)) = wT (qs.take i) ++ (q.waiters ++ wT (qs.drop (i + 1))) := by simp [wT]
  rw [e, List.map_append, List.nodup_append] at h4
  have : w.txn ∉ (wT (qs.take i)).map (·.txn) := fun hx => h4.2.2 _ hx _ (List.mem_map.2 ⟨w, List.mem_append_left _ hw, rfl⟩) rfl
  simp [mhas, this]
theorem wT_sub {f : Queue → Queue} {p : Queue → Bool} (hf : ∀ q, (f q).waiters.Sublist q.waiters) : ∀ qs : List Queue, (wT ((qs.map f).filter p)).Sublist (wT qs)
  | [] => List.Sublist.refl _
  | q :: r => by
    have ih := wT_sub (p := p) hf r
    have e : wT (q :: r) = q.waiters ++ wT r := rfl
    rw [e, List.map_cons, List.filter_cons]
    split
    · have e2 : wT (f q :: (r.map f).filter p) = (f q).waiters ++ wT ((r.map f).filter p) := rfl
      rw [e2]
      exact (hf q).append ih
    · exact ih.trans (List.sublist_append_right _ _)
theorem left_sub (t : Int) (all : Bool) (q : Queue) : (leftQ t all q).waiters.Sublist q.waiters := pump_sub.trans List.filter_sublist
theorem left_ok {qs : List Queue} (h : lockB qs = true) (t : Int) (all : Bool) : lockB (leftL t all qs) = true := by
  have hl := lock_len h
  refine lockB_of ?_ (fun q hq => ?_) ?_ ?_
  · unfold leftL
    have := List.length_filter_le (fun q : Queue => !decide (q.holders.length = 0)) (qs.map (leftQ t all))
    rw [List.length_map] at this; omega
  · obtain ⟨hq, hne⟩ := List.mem_filter.1 hq
    obtain ⟨p, hp, rfl⟩ := List.mem_map.1 hq
    exact left_q (lock_q h p hp) t all fun e => by rw [e] at hne; simp at hne
  · exact (List.pairwise_map.2 (lock_srt h)).filter _
  · exact (lock_nod h).sublist ((wT_sub (left_sub t all) qs).map _)
end Go.Proofs.YtndehfninoimgaaGreat
