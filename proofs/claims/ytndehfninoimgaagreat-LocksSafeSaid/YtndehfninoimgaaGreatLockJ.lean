/- Layers 7 and 8 (modes, locks): modes; which queues may be, by the code and by the document. -/
import Derived.Test.YtndehfninoimgaaGreatF5
import Derived.Test.YtndehfninoimgaaGreatGra
import Derived.Test.YtndehfninoimgaaGreatRw
namespace Go.Proofs.YtndehfninoimgaaGreat
open Go.Bur
set_option linter.unusedSimpArgs false
set_option linter.unusedVariables false
set_option maxRecDepth 100000

/-! ### Modes -/
def isM (a : Int) : Bool := decide (0 ≤ a ∧ a ≤ 6)
theorem isM_cases {a : Int} (h : isM a = true) : a = 0 ∨ a = 1 ∨ a = 2 ∨ a = 3 ∨ a = 4 ∨ a = 5 ∨ a = 6 := by
  have := of_decide_eq_true h; omega
def coversB (a b : Int) : Bool := isM a && isM b && (decide (a = b) || decide (b = 0) || decide (a = 5) || decide (b = 1 ∧ (a = 2 ∨ a = 3 ∨ a = 4)) || decide (a = 4 ∧ (b = 2 ∨ b = 3)))
def goesB (a b : Int) : Bool := isM a && isM b && (decide (a = 0) || decide (b = 0) || decide (a = 1 ∧ b ≤ 4) || decide (b = 1 ∧ a ≤ 4) || decide (a = 2 ∧ b = 2) || decide (a = 3 ∧ b = 3) || decide (a = 6 ∧ b = 6))
def keyM (a : Int) : Bool := decide (a = 0 ∨ a = 3 ∨ a = 5 ∨ a = 6)
def tabM (a : Int) : Bool := isM a && !decide (a = 6)
theorem mode_is_eq (n : Nat) (a : Int) : mode_is n a = some (isM a) := by
  unfold mode_is isM
  simp only [jn]
  by_cases h1 : a ≥ 0
  · rw [decide_eq_true h1]
    simp only [cond_true]
    congr 1
    exact decide_eq_decide.2 (by omega)
  · rw [decide_eq_false h1, decide_eq_false (show ¬ (0 ≤ a ∧ a ≤ 6) by omega)]; rfl
theorem covers_eq (n : Nat) (hn : 20 ≤ n) (a b : Int) : mode_Covers n a b = some (coversB a b) := by
  obtain ⟨n, rfl⟩ : ∃ m, n = m + 20 := ⟨n - 20, by omega⟩
  cases ha : isM a with
  | false => unfold mode_Covers coversB; simp only [mode_is_eq, ha, Option.bind_some, jn, cond_false, Bool.false_and]
  | true =>
    cases hb : isM b with
    | false => unfold mode_Covers coversB; simp only [mode_is_eq, ha, hb, Option.bind_some, jn, cond_true, cond_false, Bool.false_and, Bool.and_false]
    | true =>
      rcases isM_cases ha with rfl | rfl | rfl | rfl | rfl | rfl | rfl <;> rcases isM_cases hb with rfl | rfl | rfl | rfl | rfl | rfl | rfl <;> kernel_rfl
theorem goes_eq (n : Nat) (hn : 20 ≤ n) (a b : Int) : mode_Goes n a b = some (goesB a b) := by
  obtain ⟨n, rfl⟩ : ∃ m, n = m + 20 := ⟨n - 20, by omega⟩
  cases ha : isM a with
  | false => unfold mode_Goes goesB; simp only [mode_is_eq, ha, Option.bind_some, jn, cond_false, Bool.false_and]
  | true =>
    cases hb : isM b with
    | false => unfold mode_Goes goesB; simp only [mode_is_eq, ha, hb, Option.bind_some, jn, cond_true, cond_false, Bool.false_and, Bool.and_false]
    | true =>
      rcases isM_cases ha with rfl | rfl | rfl | rfl | rfl | rfl | rfl <;> rcases isM_cases hb with rfl | rfl | rfl | rfl | rfl | rfl | rfl <;> kernel_rfl
theorem ofTables_eq (n : Nat) (a : Int) : mode_OfTables n a = some (tabM a) := by
  unfold mode_OfTables tabM
  simp only [mode_is_eq, Option.bind_some, jn, ibne]
  cases isM a <;> rfl
theorem keyM_is {a : Int} (h : isM a = false) : keyM a = false := by
  have := of_decide_eq_false h
  unfold keyM
  exact decide_eq_false (by omega)
theorem ofKeys_eq (n : Nat) (hn : 20 ≤ n) (a : Int) : mode_OfKeys n a = some (keyM a) := by
  obtain ⟨n, rfl⟩ : ∃ m, n = m + 20 := ⟨n - 20, by omega⟩
  cases ha : isM a with
  | false => unfold mode_OfKeys; simp only [mode_is_eq, ha, Option.bind_some, jn, cond_false, keyM_is ha]
  | true => rcases isM_cases ha with rfl | rfl | rfl | rfl | rfl | rfl | rfl <;> kernel_rfl
/-! ### What is locked -/
def txnB (x : Int) : Bool := decide (1 ≤ x ∧ x ≤ 1073741824)
theorem txn_eq (n : Nat) (x : Int) : locks_txn n x = some (txnB x) := by
  unfold locks_txn txnB
  simp only [jn]
  by_cases h1 : x ≥ 1
  · rw [decide_eq_true h1]
    simp only [cond_true]
    congr 1
    exact decide_eq_decide.2 (by omega)
  · rw [decide_eq_false h1, decide_eq_false (show ¬ (1 ≤ x ∧ x ≤ 1073741824) by omega)]; rfl
def resB (r : Res) : Bool := decide (0 ≤ r.table ∧ r.table < 3) && (r.isKey || decide (r.id = 0))
theorem locked_eq (n : Nat) (r : Res) : locks_locked n r = some (resB r) := by
  unfold locks_locked resB
  simp only [jn, ibeq]
  by_cases h1 : r.table ≥ 0
  · by_cases h2 : r.table < 3
    · rw [decide_eq_true h1, decide_eq_true h2, decide_eq_true (show 0 ≤ r.table ∧ r.table < 3 from ⟨h1, h2⟩)]
      cases r.isKey <;> rfl
    · rw [decide_eq_true h1, decide_eq_false h2, decide_eq_false (show ¬ (0 ≤ r.table ∧ r.table < 3) by omega)]; rfl
  · rw [decide_eq_false h1, decide_eq_false (show ¬ (0 ≤ r.table ∧ r.table < 3) by omega)]; rfl
def modeB (r : Res) (m : Int) : Bool := !decide (m = 0) && (if r.isKey then keyM m else tabM m)
theorem of_eq (n : Nat) (hn : 20 ≤ n) (r : Res) (m : Int) : locks_of n r m = some (modeB r m) := by
  unfold locks_of modeB
  simp only [jn, ibne, ofKeys_eq n hn, ofTables_eq, Option.bind_some]
  cases r.isKey <;> by_cases h : m = 0 <;> simp [h]
/-- Its place in the order. -/
def rankR (r : Res) : Int := if r.isKey then 1 else 0
def ltR (a b : Res) : Bool := decide (a.table < b.table ∨ a.table = b.table ∧ (rankR a < rankR b ∨ rankR a = rankR b ∧ a.id < b.id))
theorem ltR_iff {a b : Res} : ltR a b = true ↔ a.table < b.table ∨ a.table = b.table ∧ (rankR a < rankR b ∨ rankR a = rankR b ∧ a.id < b.id) := by unfold ltR; exact decide_eq_true_iff
theorem ltR_trans (a b c : Res) (h : ltR a b = true) (k : ltR b c = true) : ltR a c = true := by
  rw [ltR_iff] at *; omega
def cmpT (a b : Int) : Int := if a < b then -1 else if a > b then 1 else 0
theorem cmpT_int (n : Nat) (a b : Int) : cmp_Compare_int n a b = some (cmpT a b) := by
  unfold cmp_Compare_int cmp_isNaN_int cmpT
  by_cases h1 : a < b
  · simp [h1]
  · by_cases h2 : a > b
    · simp [h1, h2]
    · simp [h1, h2]
theorem cmpT_u16 (n : Nat) (a b : Int) : cmp_Compare_uint16 n a b = some (cmpT a b) := by
  unfold cmp_Compare_uint16 cmp_isNaN_uint16 cmpT
  by_cases h1 : a < b
  · simp [h1]
  · by_cases h2 : a > b
    · simp [h1, h2]
    · simp [h1, h2]
theorem or3T (n : Nat) (hn : 4 ≤ n) (a b c : Int) : cmp_Or_int n [a, b, c] = some (if a ≠ 0 then a else if b ≠ 0 then b else c) := by
  obtain ⟨n, rfl⟩ : ∃ m, n = m + 4 := ⟨n - 4, by omega⟩
  unfold cmp_Or_int cmp_Or_int_l1
  by_cases ha : a = 0
  · subst ha
    by_cases hb : b = 0
    · subst hb
      by_cases hc : c = 0
      · subst hc; rfl
      · have : (c != 0) = true := by simpa using hc
        simp [loopF, idx, IntKind.wrap_i64, this]
    · have : (b != 0) = true := by simpa using hb
      simp [loopF, idx, IntKind.wrap_i64, this, hb]
  · have : (a != 0) = true := by simpa using ha
    simp [loopF, idx, this, ha]
theorem rank_eq (n : Nat) (r : Res) : locks_compare_1 n r = some (rankR r) := by
  unfold locks_compare_1 rankR
  cases r.isKey <;> rfl
def cR (a b : Res) : Int := if cmpT a.table b.table ≠ 0 then cmpT a.table b.table else if cmpT (rankR a) (rankR b) ≠ 0 then cmpT (rankR a) (rankR b) else cmpT a.id b.id
theorem compareR (n : Nat) (hn : 20 ≤ n) (a b : Res) : locks_compare n a b = some (cR a b) := by
  unfold locks_compare cR
  simp only [cmpT_int, cmpT_u16, rank_eq, Option.bind_some, or3T n (by omega)]
theorem cmpT_cases (a b : Int) : (a < b ∧ cmpT a b = -1) ∨ (a = b ∧ cmpT a b = 0) ∨ (b < a ∧ cmpT a b = 1) := by
  unfold cmpT
  split
  · left; omega
  · split
    · right; right; omega
    · right; left; omega
theorem cR_ge {a b : Res} : decide (cR a b ≥ 0) = !ltR a b := by
  unfold cR ltR
  rcases cmpT_cases a.table b.table with ⟨h, e⟩ | ⟨h, e⟩ | ⟨h, e⟩ <;> rcases cmpT_cases (rankR a) (rankR b) with ⟨h2, e2⟩ | ⟨h2, e2⟩ | ⟨h2, e2⟩ <;> rcases cmpT_cases a.id b.id with ⟨h3, e3⟩ | ⟨h3, e3⟩ | ⟨h3, e3⟩ <;> rw [e, e2, e3] <;> simp [h, h2, h3] <;> omega
/-! ### Holders -/
def heldL (hs : List Hold) (x : Int) : Int := ((hs.find? fun h => decide (h.txn = x)).map (·.mode)).getD 0
def goesL (hs : List Hold) (x m : Int) : Bool := hs.all fun h => decide (h.txn = x) || goesB h.mode m
theorem held_eq (n : Nat) (hn : 1003 ≤ n) (q : Queue) (hq : q.holders.length ≤ 1000) (x : Int) : locks_held n q x = some (heldL q.holders x) := by
  unfold locks_held
  have h1 : slices_IndexFunc_Hold_f101 n q.holders x = some (match q.holders.findIdx? (fun h => decide (h.txn = x)) with | some j => (j : Int) | none => -1) := by
    unfold slices_IndexFunc_Hold_f101
    show slices_IndexFunc_Hold_f101_l1 n n (q.holders, x, (q.holders.length : Int), ((0 : Nat) : Int), ()) = _
    unfold slices_IndexFunc_Hold_f101_l1
    rw [run_loop q.holders (fun i (_ : Unit) => (q.holders, x, (q.holders.length : Int), (i : Int), ())) (fun i h _ => if decide (h.txn = x) then .inl (some (i : Int)) else .inr ()) (fun _ => some (-1)) ?_ ?_ n 0 () (Nat.zero_le _) (by omega)]
    · rw [List.drop_zero, runL_find0 (f := fun i => some (i : Int))]
      cases q.holders.findIdx? (fun h => decide (h.txn = x)) with
      | none => rfl
      | some j => simp
    · intro r i s y hy hi
      simp only [lt_dec hi, cond_true, idx_nat, hy, Option.bind_some, locks_held_1, ibeq, wrap_succ (show i < 4611686018427387904 by omega)]
      cases decide (y.txn = x) <;> rfl
    · intro r s
      simp only [ge_dec (Nat.lt_irrefl _), cond_false]
  rw [h1, Option.bind_some]
  unfold heldL
  rw [List.find?_eq_bind_findIdx?_getElem?]
  cases hf : q.holders.findIdx? (fun h => decide (h.txn = x)) with
  | none => rfl
  | some j =>
    obtain ⟨hj, _, _⟩ := List.findIdx?_eq_some_iff_getElem.1 hf
    simp only [decide_eq_false (show ¬ (j : Int) < 0 by omega), cond_false, idx_nat, get_some hj, Option.bind_some, Option.map_some, Option.getD_some]
theorem goes1_eq (n : Nat) (hn : 20 ≤ n) (h : Hold) (x m : Int) : locks_goes_1 n h x m = some (!(decide (h.txn = x) || goesB h.mode m)) := by
  unfold locks_goes_1
  simp only [jn, ibne, goes_eq n hn, Option.bind_some]
  cases decide (h.txn = x) <;> rfl
theorem goesL_eq (n : Nat) (hn : 1003 ≤ n) (q : Queue) (hq : q.holders.length ≤ 1000) (x m : Int) : locks_goes n q x m = some (goesL q.holders x m) := by
  unfold locks_goes slices_ContainsFunc_Hold_f103
  have h1 : slices_IndexFunc_Hold_f103 n q.holders x m = some (match q.holders.findIdx? (fun h => !(decide (h.txn = x) || goesB h.mode m)) with | some j => (j : Int) | none => -1) := by
    unfold slices_IndexFunc_Hold_f103
    show slices_IndexFunc_Hold_f103_l1 n n (q.holders, x, m, (q.holders.length : Int), ((0 : Nat) : Int), ()) = _
    unfold slices_IndexFunc_Hold_f103_l1
    rw [run_loop q.holders (fun i (_ : Unit) => (q.holders, x, m, (q.holders.length : Int), (i : Int), ())) (fun i h _ => if !(decide (h.txn = x) || goesB h.mode m) then .inl (some (i : Int)) else .inr ()) (fun _ => some (-1)) ?_ ?_ n 0 () (Nat.zero_le _) (by omega)]
    · rw [List.drop_zero, runL_find0 (f := fun i => some (i : Int))]
      cases q.holders.findIdx? (fun h => !(decide (h.txn = x) || goesB h.mode m)) with
      | none => rfl
      | some j => simp
    · intro r i s y hy hi
      simp only [lt_dec hi, cond_true, idx_nat, hy, Option.bind_some, goes1_eq n (by omega), wrap_succ (show i < 4611686018427387904 by omega)]
      cases decide (y.txn = x) || goesB y.mode m <;> rfl
    · intro r s
      simp only [ge_dec (Nat.lt_irrefl _), cond_false]
  rw [h1]
  simp only [Option.bind_some]
  congr 1
  unfold goesL
  cases hf : q.holders.findIdx? (fun h => !(decide (h.txn = x) || goesB h.mode m)) with
  | none =>
    have := List.findIdx?_eq_none_iff.1 hf
    symm
    simp only [show ¬ ((-1 : Int) ≥ 0) by omega, decide_false, Bool.not_false, List.all_eq_true]
    intro y hy
    have := this y hy
    rw [Bool.or_eq_true, decide_eq_true_iff]
    by_cases hx : y.txn = x
    · exact .inl hx
    · exact .inr (by simpa [hx] using this)
  | some j =>
    obtain ⟨hj, h2, _⟩ := List.findIdx?_eq_some_iff_getElem.1 hf
    symm
    simp only [show ((j : Int) ≥ 0) by omega, decide_true, Bool.not_true]
    rw [List.all_eq_false]
    exact ⟨_, List.getElem_mem hj, by simpa using h2⟩
end Go.Proofs.YtndehfninoimgaaGreat

/- Layer 8 (locks): which locks may be: the code's answer is the document's. -/
namespace Go.Proofs.YtndehfninoimgaaGreat
open Go.Bur
set_option linter.unusedSimpArgs false
set_option linter.unusedVariables false
set_option maxRecDepth 100000

theorem runL_chk2 {α σ R : Type} {p : Nat → α → Bool} {g : α → σ → σ} {v : Option R} {fin : σ → Option R} : ∀ (l : List α) (i : Nat) (s : σ), runL (fun i x s => if p i x then .inr (g x s) else .inl v) fin l i s = if allFrom p i l then fin (l.foldl (fun s x => g x s) s) else v
  | [], _, _ => rfl
  | x :: t, i, s => by
    by_cases hp : p i x = true
    · simp only [runL, allFrom, hp, if_true, Bool.true_and, List.foldl_cons]; exact runL_chk2 t (i + 1) _
    · have hp : p i x = false := by simpa using hp
      simp [runL, allFrom, hp]
theorem allFrom_iff {α : Type} {p : Nat → α → Bool} : ∀ {l : List α} {k : Nat}, allFrom p k l = true ↔ ∀ i x, l[i]? = some x → p (k + i) x = true
  | [], k => by simp [allFrom]
  | y :: l, k => by
    simp only [allFrom, Bool.and_eq_true, allFrom_iff (l := l) (k := k + 1)]
    constructor
    · rintro ⟨h1, h2⟩ i x hx
      cases i with
      | zero => simp at hx; subst hx; exact h1
      | succ i => rw [show k + (i + 1) = k + 1 + i from by omega]; exact h2 i x (by simpa using hx)
    · intro h
      exact ⟨h 0 y rfl, fun i x hx => by rw [show k + 1 + i = k + (i + 1) from by omega]; exact h (i + 1) x (by simpa using hx)⟩
theorem pair_iff {α : Type} {R : α → α → Prop} : ∀ {l : List α}, l.Pairwise R ↔ ∀ i x, l[i]? = some x → ∀ y ∈ l.take i, R y x
  | [] => by simp
  | a :: l => by
    rw [List.pairwise_cons, pair_iff (l := l)]
    constructor
    · rintro ⟨h1, h2⟩ i x hx y hy
      cases i with
      | zero => simp at hy
      | succ i =>
        rw [List.take_succ_cons] at hy
        have hx : l[i]? = some x := by simpa using hx
        rcases List.mem_cons.1 hy with rfl | hy
        · exact h1 x (List.mem_of_getElem? hx)
        · exact h2 i x hx y hy
    · intro h
      refine ⟨fun x hx => ?_, fun i x hx y hy => h (i + 1) x (by simpa using hx) y (by rw [List.take_succ_cons]; exact List.mem_cons_of_mem _ hy)⟩
      obtain ⟨i, hi⟩ := List.mem_iff_getElem?.1 hx
      exact h (i + 1) x (by simpa using hi) a (by rw [List.take_succ_cons]; exact List.mem_cons_self ..)

/-! ### Holders -/
def hB (r : Res) (hs : List Hold) (h : Hold) : Bool := txnB h.txn && modeB r h.mode && goesL hs h.txn h.mode
def ltH (a b : Hold) : Bool := decide (a.txn < b.txn)
def holdersB (r : Res) (hs : List Hold) : Bool := !hs.isEmpty && chainB (hB r hs) ltH none hs
theorem fold_last {hs : List Hold} {r : Res} {l : List Hold} : ∀ {s : Int}, 0 ≤ s → (∀ h ∈ l, hB r hs h = true) → 0 ≤ l.foldl (fun _ h => h.txn) s ∧ (l ≠ [] → 0 < l.foldl (fun _ h => h.txn) s) := by
  induction l with
  | nil => intro s hs' _; exact ⟨hs', fun h => absurd rfl h⟩
  | cons h t ih =>
    intro s _ hall
    have hh := hall h (List.mem_cons_self ..)
    unfold hB txnB at hh
    rw [Bool.and_eq_true, Bool.and_eq_true, decide_eq_true_iff] at hh
    rw [List.foldl_cons]
    obtain ⟨h1, h2⟩ := ih (s := h.txn) (by omega) fun x hx => hall x (List.mem_cons_of_mem _ hx)
    refine ⟨h1, fun _ => ?_⟩
    cases t with
    | nil => simp; omega
    | cons y t => exact h2 (by simp)
theorem ltH_trans (a b c : Hold) (h : ltH a b = true) (k : ltH b c = true) : ltH a c = true := by
  unfold ltH at *
  rw [decide_eq_true_iff] at *; omega
theorem holders_eq (n : Nat) (hn : 1003 ≤ n) (q : Queue) (hq : q.holders.length ≤ 1000) : locks_holders n q = some (holdersB q.res q.holders) := by
  unfold locks_holders
  show locks_holders_l1 n n (0, q.holders, (q.holders.length : Int), ((0 : Nat) : Int), q, ()) = _
  unfold locks_holders_l1
  rw [run_loopI q.holders (fun i (s : Int) => (s, q.holders, (q.holders.length : Int), (i : Int), q, ())) (fun i h s => if stepA (hB q.res q.holders) ltH q.holders i h then .inr h.txn else .inl (some false)) (fun s => some (decide (s > 0))) (fun i s => s = match prevO q.holders i with | none => 0 | some y => y.txn) ?_ ?_ ?_ n 0 0 (Nat.zero_le _) (by omega) rfl]
  · rw [List.drop_zero, runL_chk2 (g := fun (h : Hold) (_ : Int) => h.txn), allFrom_chain]
    unfold holdersB
    cases hc : chainB (hB q.res q.holders) ltH none q.holders with
    | false => simp
    | true =>
      have hall := ((chain_iff ltH_trans).1 hc).1
      have hf := fold_last (s := 0) (Int.le_refl _) hall
      simp only [if_true, Bool.and_true]
      congr 1
      cases hh : q.holders with
      | nil => rfl
      | cons x t =>
        rw [hh] at hf
        simp only [List.isEmpty_cons, Bool.not_false]
        exact decide_eq_true (hf.2 (by simp))
  · intro i s h s' hh hI hs
    split at hs
    · cases hs
      simp [prevO, hh]
    · cases hs
  · intro r i s h hh hi hI
    simp only [lt_dec hi, cond_true, idx_nat, hh, Option.bind_some, txn_eq, jn, goesL_eq n hn q hq, of_eq n (by omega), wrap_succ (show i < 4611686018427387904 by omega)]
    unfold stepA hB
    cases ht : txnB h.txn with
    | false => rfl
    | true =>
      have h1 : 1 ≤ h.txn := (of_decide_eq_true ht).1
      have hle : decide (h.txn ≤ s) = !prevOk ltH h (prevO q.holders i) := by
        rw [hI]
        cases prevO q.holders i with
        | none => simp only [prevOk, Bool.not_true]; exact decide_eq_false (by omega)
        | some y =>
          simp only [prevOk]
          unfold ltH
          by_cases hy : y.txn < h.txn
          · rw [decide_eq_true hy, decide_eq_false (by omega)]; rfl
          · rw [decide_eq_false hy, decide_eq_true (by omega)]; rfl
      rw [hle]
      cases prevOk ltH h (prevO q.holders i) <;> cases modeB q.res h.mode <;> cases goesL q.holders h.txn h.mode <;> rfl
  · intro r s hI
    simp only [ge_dec (Nat.lt_irrefl _), cond_false]

/-! ### Waiters -/
def wS (r : Res) (hs : List Hold) (w : Wait) : Bool := txnB w.txn && modeB r w.mode && decide (w.held = heldL hs w.txn) && !coversB w.held w.mode && coversB w.mode w.held
def wR (a b : Wait) : Bool := !(!decide (b.held = 0) && decide (a.held = 0))
theorem wR_iff {a b : Wait} : wR a b = true ↔ (a.held = 0 → b.held = 0) := by
  unfold wR
  by_cases h1 : a.held = 0 <;> by_cases h2 : b.held = 0 <;> simp [h1, h2]
theorem wR_trans (a b c : Wait) (h : wR a b = true) (k : wR b c = true) : wR a c = true := by
  rw [wR_iff] at *; exact fun x => k (h x)
def firstB (hs : List Hold) : List Wait → Bool
  | [] => true
  | w :: _ => !goesL hs w.txn w.mode
def waitersB (r : Res) (hs : List Hold) (ws : List Wait) : Bool := chainB (wS r hs) wR none ws && decide ((ws.map (·.txn)).Nodup) && firstB hs ws
def metW (m : List (Int × Bool)) (ws : List Wait) : List (Int × Bool) := ws.foldl (fun m w => (w.txn, true) :: m) m
def AllTr (m : List (Int × Bool)) : Prop := ∀ p ∈ m, p.2 = true
theorem mget_tr {x : Int} : ∀ {m : List (Int × Bool)}, AllTr m → mget false m x = mhas m x
  | [], _ => rfl
  | (k, v) :: m, h => by
    have hv : v = true := h _ (List.mem_cons_self ..)
    have ih := mget_tr (x := x) (m := m) fun p hp => h p (List.mem_cons_of_mem _ hp)
    subst hv
    by_cases hk : k = x
    · simp [mget, mhas, hk]
    · simp only [mget, mhas, List.any_cons, decide_eq_false hk, Bool.false_or]
      exact ih
theorem look_tr {m : List (Int × Bool)} (h : AllTr m) {x : Int} (hx : keyIn .i64 x = true) : mlook .i64 false m x = some (mhas m x) := by
  unfold mlook
  rw [hx, ← mget_tr h]
theorem put_tr {m : List (Int × Bool)} {x : Int} (hk : keyIn .i64 x = true) (hm : m.length ≤ 1000000) : mput .i64 m x true = some ((x, true) :: m) := by
  unfold mput
  rw [hk, Nat.ble_eq_true_of_le hm]; rfl
theorem key_txn {x : Int} (h : txnB x = true) : keyIn .i64 x = true := by
  have := of_decide_eq_true h
  unfold keyIn
  simp [Lit.wf]
  exact ⟨by show -9223372036854775808 ≤ x; omega, by show x ≤ 9223372036854775807; omega⟩
theorem metW_all {m : List (Int × Bool)} (h : AllTr m) : ∀ {ws : List Wait}, AllTr (metW m ws) := fun {ws} =>
  foldl_inv (I := AllTr) h fun s x _ hs p hp => by
    rcases List.mem_cons.1 hp with rfl | hp
    · rfl
    · exact hs p hp
theorem metW_len {m : List (Int × Bool)} : ∀ {ws : List Wait}, (metW m ws).length = m.length + ws.length := by
  intro ws
  induction ws generalizing m with
  | nil => rfl
  | cons w t ih =>
    show (metW ((w.txn, true) :: m) t).length = _
    rw [ih]; simp; omega
theorem mhas_metW {x : Int} : ∀ {ws : List Wait} {m : List (Int × Bool)}, mhas (metW m ws) x = (mhas m x || decide (x ∈ ws.map (·.txn)))
  | [], m => by simp [metW]
  | w :: t, m => by
    show mhas (metW ((w.txn, true) :: m) t) x = _
    rw [mhas_metW (ws := t)]
    simp only [mhas, List.any_cons, List.map_cons, List.mem_cons]
    by_cases h : x = w.txn
    · simp [h]
    · have h' : ¬ w.txn = x := fun e => h e.symm
      simp [h, h']
/-- A waiter at its place, by the code. -/
def wP (r : Res) (hs : List Hold) (m : List (Int × Bool)) (ws : List Wait) (i : Nat) (w : Wait) : Bool :=
  wS r hs w && !mhas m w.txn && !decide (w.txn ∈ (ws.take i).map (·.txn)) && !((ws.take i).any (fun y => decide (y.held = 0)) && !decide (w.held = 0)) && !(decide (i = 0) && goesL hs w.txn w.mode)
theorem wP_all {r : Res} {hs : List Hold} {m : List (Int × Bool)} {ws : List Wait} : allFrom (wP r hs m ws) 0 ws = (waitersB r hs ws && ws.all fun w => !mhas m w.txn) := by
  rw [Bool.eq_iff_iff, allFrom_iff]
  unfold waitersB
  simp only [Bool.and_eq_true, chain_iff wR_trans, decide_eq_true_iff, List.all_eq_true, Nat.zero_add]
  constructor
  · intro h
    have hp : ∀ i w, ws[i]? = some w → wS r hs w = true ∧ mhas m w.txn = false ∧ w.txn ∉ (ws.take i).map (·.txn) ∧ (∀ y ∈ ws.take i, y.held = 0 → w.held = 0) ∧ (i = 0 → goesL hs w.txn w.mode = false) := fun i w hw => by
      have := h i w hw
      unfold wP at this
      simp only [Bool.and_eq_true, Bool.not_eq_true', decide_eq_false_iff_not, Bool.and_eq_false_iff] at this
      obtain ⟨⟨⟨⟨h1, h2⟩, h3⟩, h4⟩, h5⟩ := this
      refine ⟨h1, h2, h3, fun y hy hy0 => ?_, fun hi => ?_⟩
      · rcases h4 with h4 | h4
        · rw [List.any_eq_false] at h4
          exact absurd (decide_eq_true hy0) (h4 y hy)
        · simpa using h4
      · rcases h5 with h5 | h5
        · exact absurd hi h5
        · exact h5
    refine ⟨⟨⟨⟨fun w hw => ?_, pair_iff.2 fun i w hw y hy => wR_iff.2 ((hp i w hw).2.2.2.1 y hy), fun y hy => by cases hy⟩, ?_⟩, ?_⟩, fun w hw => ?_⟩
    · obtain ⟨i, hi⟩ := List.mem_iff_getElem?.1 hw
      exact (hp i w hi).1
    · have : ws.Pairwise fun a b => a.txn ≠ b.txn := pair_iff.2 fun i w hw y hy e => (hp i w hw).2.2.1 (List.mem_map.2 ⟨y, hy, e⟩)
      exact List.pairwise_map.2 this
    · cases hw : ws with
      | nil => rfl
      | cons w t =>
        have := (hp 0 w (by rw [hw]; rfl)).2.2.2.2 rfl
        simp [firstB, this]
    · obtain ⟨i, hi⟩ := List.mem_iff_getElem?.1 hw
      rw [(hp i w hi).2.1]; rfl
  · rintro ⟨⟨⟨⟨h1, h2, _⟩, h3⟩, h4⟩, h5⟩ i w hw
    have hm := List.mem_of_getElem? hw
    have h3 : ws.Pairwise fun a b => a.txn ≠ b.txn := List.pairwise_map.1 h3
    unfold wP
    simp only [Bool.and_eq_true, Bool.not_eq_true', decide_eq_false_iff_not, Bool.and_eq_false_iff]
    refine ⟨⟨⟨⟨h1 w hm, by simpa using h5 w hm⟩, fun hx => ?_⟩, ?_⟩, ?_⟩
    · obtain ⟨y, hy, e⟩ := List.mem_map.1 hx
      exact pair_iff.1 h3 i w hw y hy e
    · by_cases h0 : w.held = 0
      · right; simp [h0]
      · left
        rw [List.any_eq_false]
        intro y hy hy0
        exact h0 (wR_iff.1 (pair_iff.1 h2 i w hw y hy) (of_decide_eq_true hy0))
    · by_cases hi : i = 0
      · right
        subst hi
        cases hws : ws with
        | nil => rw [hws] at hw; cases hw
        | cons v t =>
          rw [hws] at hw h4
          simp at hw
          subst hw
          simpa [firstB] using h4
      · exact .inl hi
theorem wP_ord (a b c d e f g h : Bool) : (((((true && c && d) && !e) && f) && !a) && !b && !(g && !h)) = (!(a || b) && c && d && !e && f && !(g && !h)) := by
  cases a <;> cases b <;> cases c <;> cases d <;> cases e <;> cases f <;> rfl
set_option maxHeartbeats 2000000 in
theorem waiters_eq (n : Nat) (hn : 1003 ≤ n) (q : Queue) (hq : q.holders.length ≤ 1000) (hw : q.waiters.length ≤ 1000) (m : List (Int × Bool)) (hm : AllTr m) (hml : m.length ≤ 900000) :
    ∃ m', locks_waiters n q m = some (waitersB q.res q.holders q.waiters && (q.waiters.all fun w => !mhas m w.txn), m') ∧ ((waitersB q.res q.holders q.waiters && (q.waiters.all fun w => !mhas m w.txn)) = true → m' = metW m q.waiters) := by
  unfold locks_waiters
  show ∃ m', locks_waiters_l1 n n (false, q.waiters, (q.waiters.length : Int), ((0 : Nat) : Int), m, q, ()) = _ ∧ _
  rw [← wP_all]
  have key : ∀ (t pre : List Wait) (k : Nat), q.waiters = pre ++ t → t.length < k → ∃ m', locks_waiters_l1 n k (pre.any (fun y => decide (y.held = 0)), q.waiters, (q.waiters.length : Int), (pre.length : Int), metW m pre, q, ()) = some (allFrom (wP q.res q.holders m q.waiters) pre.length t, m') ∧ (allFrom (wP q.res q.holders m q.waiters) pre.length t = true → m' = metW m q.waiters) := by
    intro t
    induction t with
    | nil =>
      intro pre k he hk
      obtain ⟨k, rfl⟩ : ∃ k', k = k' + 1 := ⟨k - 1, by omega⟩
      rw [List.append_nil] at he
      refine ⟨metW m pre, ?_, fun _ => by rw [he]⟩
      unfold locks_waiters_l1
      simp only [loopF]
      rw [decide_eq_false (by rw [he]; omega)]; rfl
    | cons w t ih =>
      intro pre k he hk
      obtain ⟨k, rfl⟩ : ∃ k', k = k' + 1 := ⟨k - 1, by omega⟩
      have hlen : q.waiters.length = pre.length + (t.length + 1) := by rw [he]; simp
      have hx : q.waiters[pre.length]? = some w := by rw [he]; simp
      have htk : q.waiters.take pre.length = pre := by rw [he]; simp
      have hml2 : (metW m pre).length ≤ 1000000 := by rw [metW_len]; omega
      obtain ⟨r, hr⟩ : ∃ r, r = locks_waiters_l1 n k := ⟨_, rfl⟩
      have ih := fun (pre : List Wait) (he : q.waiters = pre ++ t) (hk : t.length < k) => ih pre k he hk
      rw [← hr] at ih
      unfold locks_waiters_l1 at hr ⊢
      rw [loopF, ← hr]
      clear hr
      simp only []
      rw [decide_eq_true (by omega)]
      simp only [cond_true, idx_nat, hx, Option.bind_some, txn_eq, jn, of_eq n (by omega), held_eq n hn q hq, covers_eq n (by omega), locks_conversion, goesL_eq n hn q hq, ibeq, ibne, allFrom]
      have bad : wP q.res q.holders m q.waiters pre.length w = false → ∃ m', some (false, metW m pre) = some (wP q.res q.holders m q.waiters pre.length w && allFrom (wP q.res q.holders m q.waiters) (pre.length + 1) t, m') ∧ ((wP q.res q.holders m q.waiters pre.length w && allFrom (wP q.res q.holders m q.waiters) (pre.length + 1) t) = true → m' = metW m q.waiters) := fun h => by
        rw [h]
        exact ⟨metW m pre, rfl, nofun⟩
      cases ht : txnB w.txn with
      | false =>
        simp only [cond_false, Bool.not_false, cond_true]
        exact bad (by unfold wP wS; rw [ht]; rfl)
      | true =>
        have hk1 := key_txn ht
        have good : wP q.res q.holders m q.waiters pre.length w = true → ∃ m', (mput .i64 (metW m pre) w.txn true).bind (fun l23 => cond (pre.any (fun y => decide (y.held = 0))) (r (true, q.waiters, (q.waiters.length : Int), IntKind.wrap .i64 ((pre.length : Int) + 1), l23, q, ())) (r (!!decide (w.held = 0), q.waiters, (q.waiters.length : Int), IntKind.wrap .i64 ((pre.length : Int) + 1), l23, q, ()))) = some (wP q.res q.holders m q.waiters pre.length w && allFrom (wP q.res q.holders m q.waiters) (pre.length + 1) t, m') ∧ ((wP q.res q.holders m q.waiters pre.length w && allFrom (wP q.res q.holders m q.waiters) (pre.length + 1) t) = true → m' = metW m q.waiters) := fun h => by
          obtain ⟨m', e1, e2⟩ := ih (pre ++ [w]) (by rw [he]; simp) (by simp at hk; omega)
          have e3 : metW m (pre ++ [w]) = (w.txn, true) :: metW m pre := by simp [metW]
          rw [e3, List.length_append, List.length_singleton, List.any_append] at e1
          simp only [List.any_cons, List.any_nil, Bool.or_false] at e1
          rw [List.length_append, List.length_singleton] at e2
          rw [h, Bool.true_and]
          refine ⟨m', ?_, e2⟩
          rw [put_tr hk1 hml2, Option.bind_some, wrap_succ (by omega), ← e1]
          cases pre.any (fun y => decide (y.held = 0)) with
          | true => rfl
          | false => simp
        simp only [cond_true, look_tr (metW_all hm (ws := pre)) hk1, mhas_metW, Option.bind_some]
        have hwp : wP q.res q.holders m q.waiters pre.length w = (!(mhas m w.txn || decide (w.txn ∈ pre.map (·.txn))) && modeB q.res w.mode && decide (w.held = heldL q.holders w.txn) && !coversB w.held w.mode && coversB w.mode w.held && !(pre.any (fun y => decide (y.held = 0)) && !decide (w.held = 0)) && !(decide (pre.length = 0) && goesL q.holders w.txn w.mode)) := by
          unfold wP wS
          rw [ht, htk]
          exact congrArg (· && _) (wP_ord ..)
        have h0 : decide ((pre.length : Int) = 0) = decide (pre.length = 0) := decide_eq_decide.2 (by omega)
        simp only [h0]
        simp only [hwp] at bad good ⊢
        clear hwp ih
        generalize (mhas m w.txn || decide (w.txn ∈ pre.map (·.txn))) = u at bad good ⊢
        generalize modeB q.res w.mode = md at bad good ⊢
        generalize decide (w.held = heldL q.holders w.txn) = he at bad good ⊢
        generalize coversB w.held w.mode = c1 at bad good ⊢
        generalize coversB w.mode w.held = c2 at bad good ⊢
        generalize pre.any (fun y => decide (y.held = 0)) = sn at bad good ⊢
        generalize decide (w.held = 0) = h0 at bad good ⊢
        generalize decide (pre.length = 0) = z at bad good ⊢
        generalize goesL q.holders w.txn w.mode = go at bad good ⊢
        cases u with
        | true => exact bad rfl
        | false =>
        cases md with
        | false => exact bad rfl
        | true =>
        cases he with
        | false => exact bad rfl
        | true =>
        cases c1 with
        | true => exact bad rfl
        | false =>
        cases c2 with
        | false => exact bad rfl
        | true =>
        cases sn <;> cases h0 <;> cases z <;> cases go <;> first | exact bad rfl | exact good rfl
  obtain ⟨m', e1, e2⟩ := key q.waiters [] n rfl (by omega)
  exact ⟨m', e1, e2⟩
end Go.Proofs.YtndehfninoimgaaGreat

/- Layer 8 (locks): which locks may be: both answers. -/
namespace Go.Proofs.YtndehfninoimgaaGreat
open Go.Bur
set_option linter.unusedSimpArgs false
set_option linter.unusedVariables false
set_option maxRecDepth 100000

def ltQ (a b : Queue) : Bool := ltR a.res b.res
def qB (q : Queue) : Bool := resB q.res && holdersB q.res q.holders && waitersB q.res q.holders q.waiters
def wT (qs : List Queue) : List Wait := qs.flatMap (·.waiters)
/-- A queue at its place. -/
def qP (qs : List Queue) (i : Nat) (q : Queue) : Bool := resB q.res && prevOk ltQ q (prevO qs i) && holdersB q.res q.holders && (waitersB q.res q.holders q.waiters && q.waiters.all fun w => !mhas (metW [] (wT (qs.take i))) w.txn)
def lockB (qs : List Queue) : Bool := decide (qs.length ≤ 500) && allFrom (qP qs) 0 qs
def SmallL (qs : List Queue) : Prop := ∀ q ∈ qs, q.holders.length ≤ 1000 ∧ q.waiters.length ≤ 1000
theorem wT_len : ∀ {qs : List Queue}, SmallL qs → (wT qs).length ≤ 1000 * qs.length
  | [], _ => by simp [wT]
  | q :: t, h => by
    have h1 := (h q (List.mem_cons_self ..)).2
    have h2 := wT_len (qs := t) fun x hx => h x (List.mem_cons_of_mem _ hx)
    show (q.waiters ++ wT t).length ≤ _
    simp only [List.length_append, List.length_cons]; omega
theorem wT_snoc (qs : List Queue) (q : Queue) : metW [] (wT (qs ++ [q])) = metW (metW [] (wT qs)) q.waiters := by
  simp [wT, metW, List.foldl_append]
theorem met_tr (ws : List Wait) : AllTr (metW [] ws) := metW_all fun p hp => by cases hp
theorem met_len (ws : List Wait) : (metW [] ws).length = ws.length := by rw [metW_len]; simp

set_option maxHeartbeats 2000000 in
theorem check_eq (n : Nat) (hn : 1003 ≤ n) (o : Locks) (hs : SmallL o.queues) : locks_Check n o = some (if lockB o.queues then 0 else 180) := by
  unfold locks_Check lockB
  by_cases hl : o.queues.length ≤ 500
  · rw [decide_eq_false (show ¬ ((o.queues.length : Int) > 500) by omega), decide_eq_true hl]
    simp only [cond_false, Bool.true_and]
    have key : ∀ (t pre : List Queue) (k : Nat), o.queues = pre ++ t → t.length < k → locks_Check_l1 n k (o.queues, (o.queues.length : Int), (pre.length : Int), o, metW [] (wT pre), ()) = some (if allFrom (qP o.queues) pre.length t then 0 else 180) := by
      intro t
      induction t with
      | nil =>
        intro pre k he hk
        obtain ⟨k, rfl⟩ : ∃ k', k = k' + 1 := ⟨k - 1, by omega⟩
        unfold locks_Check_l1
        rw [loopF]
        simp only []
        rw [decide_eq_false (by rw [he]; simp)]; rfl
      | cons q t ih =>
        intro pre k he hk
        obtain ⟨k, rfl⟩ : ∃ k', k = k' + 1 := ⟨k - 1, by omega⟩
        have hlen : o.queues.length = pre.length + (t.length + 1) := by rw [he]; simp
        have hx : o.queues[pre.length]? = some q := by rw [he]; simp
        have htk : o.queues.take pre.length = pre := by rw [he]; simp
        have hq := hs q (List.mem_of_getElem? hx)
        have hpre : SmallL pre := fun x hx => hs x (by rw [he]; exact List.mem_append_left _ hx)
        have hwl := wT_len hpre
        obtain ⟨m', e1, e2⟩ := waiters_eq n hn q hq.1 hq.2 _ (met_tr (wT pre)) (by rw [met_len]; omega)
        obtain ⟨r, hr⟩ : ∃ r, r = locks_Check_l1 n k := ⟨_, rfl⟩
        have ih := ih (pre ++ [q]) k (by rw [he]; simp) (by simp at hk; omega)
        rw [← hr, wT_snoc, List.length_append, List.length_singleton] at ih
        unfold locks_Check_l1 at hr ⊢
        rw [loopF, ← hr]
        clear hr
        simp only []
        rw [decide_eq_true (by omega)]
        have hqp : qP o.queues pre.length q = (resB q.res && prevOk ltQ q (prevO o.queues pre.length) && holdersB q.res q.holders && (waitersB q.res q.holders q.waiters && q.waiters.all fun w => !mhas (metW [] (wT pre)) w.txn)) := by unfold qP; rw [htk]
        simp only [cond_true, idx_nat, hx, Option.bind_some, locked_eq, holders_eq n hn q hq.1, e1, allFrom, hqp, wrap_succ (show pre.length < 4611686018427387904 by omega)]
        clear hqp e1 htk
        generalize (waitersB q.res q.holders q.waiters && q.waiters.all fun w => !mhas (metW [] (wT pre)) w.txn) = wb at e2 ⊢
        have fin : r (o.queues, (o.queues.length : Int), ((pre.length + 1 : Nat) : Int), o, m', ()) = some (if wb && allFrom (qP o.queues) (pre.length + 1) t then 0 else 180) ∨ wb = false := by
          cases wb with
          | false => exact .inr rfl
          | true => left; rw [e2 rfl, ih]; rfl
        have prev : (decide ((pre.length : Int) > 0) = false ∧ prevOk ltQ q (prevO o.queues pre.length) = true) ∨ (decide ((pre.length : Int) > 0) = true ∧ ∃ y, idx o.queues (IntKind.wrap .i64 ((pre.length : Int) - 1)) = some y ∧ prevOk ltQ q (prevO o.queues pre.length) = ltR y.res q.res) := by
          have hlt : pre.length < o.queues.length := by omega
          generalize pre.length = i at hlt
          cases i with
          | zero => exact .inl ⟨rfl, rfl⟩
          | succ j => exact .inr ⟨decide_eq_true (by omega), o.queues[j], by rw [wrap_pred (by omega), idx_nat, get_some], by simp only [prevO, prevOk, get_some (show j < o.queues.length by omega)]; rfl⟩
        cases resB q.res with
        | false => rfl
        | true =>
          rcases prev with ⟨p1, p2⟩ | ⟨p1, y, p2, p3⟩
          · simp only [p1, p2, Bool.not_true, cond_false, Bool.true_and]
            cases holdersB q.res q.holders with
            | false => rfl
            | true =>
              cases wb with
              | false => rfl
              | true =>
                rcases fin with fin | fin
                · exact fin
                · cases fin
          · simp only [p1, p2, p3, Bool.not_true, cond_false, cond_true, Bool.true_and, Option.bind_some, compareR n (by omega), cR_ge]
            cases ltR y.res q.res with
            | false => rfl
            | true =>
              simp only [Bool.not_true, cond_false, Bool.true_and]
              cases holdersB q.res q.holders with
              | false => rfl
              | true =>
                cases wb with
                | false => rfl
                | true =>
                  rcases fin with fin | fin
                  · exact fin
                  · cases fin
    exact key o.queues [] n rfl (by omega)
  · rw [decide_eq_true (show (o.queues.length : Int) > 500 by omega), decide_eq_false hl]; rfl

/-! ### The document -/
end Go.Proofs.YtndehfninoimgaaGreat

/- Layer 8 (locks): by whom one is held up: both answers. -/
namespace Go.Proofs.YtndehfninoimgaaGreat
open Go.Bur
set_option linter.unusedSimpArgs false
set_option linter.unusedVariables false
set_option maxRecDepth 100000

/-! ### Numbers in order, each once -/
theorem getA {zs : List Int} {m : Nat} (h : m < zs.length) : zs.toArray[m]! = zs[m] := by
  rw [getElem!_pos zs.toArray m (by simpa using h)]; simp
theorem cp_from {zs : List Int} (hs : zs.Pairwise (· ≤ ·)) : ∀ m, m ≤ zs.length → (Go.Lib.compactUpTo zs.toArray m).Pairwise (· < ·) ∧ ∀ x, x ∈ Go.Lib.compactUpTo zs.toArray m ↔ ∃ j, j < m ∧ zs[j]? = some x
  | 0, _ => by simp [Go.Lib.compactUpTo]
  | m + 1, hm => by
    obtain ⟨h1, h2⟩ := cp_from hs m (by omega)
    have hmono : ∀ i j (hi : i < zs.length) (hj : j < zs.length), i < j → zs[i] ≤ zs[j] := List.pairwise_iff_getElem.1 hs
    have hsplit : ∀ x, (∃ j, j < m + 1 ∧ zs[j]? = some x) ↔ (∃ j, j < m ∧ zs[j]? = some x) ∨ x = zs[m] := fun x => by
      constructor
      · rintro ⟨j, hj, e⟩
        by_cases hjm : j = m
        · subst hjm
          rw [get_some (by omega)] at e
          exact .inr (Option.some.inj e).symm
        · exact .inl ⟨j, by omega, e⟩
      · rintro (⟨j, hj, e⟩ | rfl)
        · exact ⟨j, by omega, e⟩
        · exact ⟨m, by omega, get_some (by omega)⟩
    rw [Go.Lib.compactUpTo_succ]
    by_cases hk : Go.Lib.keeps zs.toArray m = true
    · rw [if_pos hk, getA (by omega)]
      refine ⟨List.pairwise_append.2 ⟨h1, List.pairwise_singleton _ _, fun a ha b hb => ?_⟩, fun x => ?_⟩
      · rw [List.mem_singleton] at hb
        subst hb
        obtain ⟨j, hj, e⟩ := (h2 a).1 ha
        rw [get_some (by omega)] at e
        obtain rfl := Option.some.inj e
        have h3 := hmono j m (by omega) (by omega) hj
        unfold Go.Lib.keeps at hk
        rw [decide_eq_true_iff] at hk
        rcases hk with hk | hk
        · omega
        · rw [getA (by omega), getA (by omega)] at hk
          by_cases hjm : j = m - 1
          · subst hjm; omega
          · have h4 := hmono j (m - 1) (by omega) (by omega) (by omega)
            have h5 := hmono (m - 1) m (by omega) (by omega) (by omega)
            omega
      · rw [hsplit, List.mem_append, h2, List.mem_singleton]
    · rw [if_neg hk, List.append_nil]
      refine ⟨h1, fun x => ?_⟩
      rw [hsplit, h2]
      unfold Go.Lib.keeps at hk
      rw [decide_eq_true_iff] at hk
      have hm0 : m ≠ 0 := fun e => hk (.inl e)
      have he : zs[m] = zs[m - 1] := Classical.byContradiction fun e => hk (.inr (by rw [getA (by omega), getA (by omega)]; exact e))
      constructor
      · exact .inl
      · rintro (h | rfl)
        · exact h
        · exact ⟨m - 1, by omega, by rw [get_some (by omega), he]⟩
theorem cp_sort (l : List Int) : (cpZ (sortZ l)).Pairwise (· < ·) ∧ ∀ x, x ∈ cpZ (sortZ l) ↔ x ∈ l := by
  unfold cpZ Go.Lib.compact
  obtain ⟨h1, h2⟩ := cp_from (sortZ_le l) (sortZ l).length (Nat.le_refl _)
  refine ⟨h1, fun x => ?_⟩
  rw [h2, ← mem_sortZ (l := l), List.mem_iff_getElem?]
  constructor
  · rintro ⟨j, _, e⟩; exact ⟨j, e⟩
  · rintro ⟨j, e⟩
    exact ⟨j, (List.getElem?_eq_some_iff.1 e).1, e⟩
theorem cpt_eq (n : Nat) (l : List Int) (h : l.length ≤ 1000000) : slices_Compact_int n l = some (cpZ l) := by
  unfold slices_Compact_int
  rw [Nat.ble_eq_true_of_le (by omega)]
theorem srt_eq (n : Nat) (l : List Int) (h : l.length ≤ 1000000) : slices_Sort_int n l = some (sortZ l) := by
  unfold slices_Sort_int
  rw [Nat.ble_eq_true_of_le (by omega)]

/-! ### Where one waits -/
def occ (t : Int) : Nat → List Wait → Option (Nat × Wait)
  | _, [] => none
  | b, w :: r => if decide (w.txn = t) then some (b, w) else occ t (b + 1) r
def occQ (t : Int) : Nat → List Queue → Option (Nat × Queue × Nat × Wait)
  | _, [] => none
  | i, q :: r => match occ t 0 q.waiters with
    | some (b, w) => some (i, q, b, w)
    | none => occQ t (i + 1) r
theorem occ_some {t : Int} : ∀ {ws : List Wait} {k b : Nat} {w : Wait}, occ t k ws = some (b, w) → ∃ j, b = k + j ∧ ws[j]? = some w ∧ w.txn = t
  | [], _, _, _, h => by cases h
  | v :: r, k, b, w, h => by
    unfold occ at h
    split at h
    · rename_i hv
      cases h
      exact ⟨0, rfl, rfl, of_decide_eq_true hv⟩
    · obtain ⟨j, h1, h2, h3⟩ := occ_some h
      exact ⟨j + 1, by omega, by simpa using h2, h3⟩
theorem occ_none {t : Int} : ∀ {ws : List Wait} {k : Nat}, occ t k ws = none → ∀ w ∈ ws, w.txn ≠ t
  | [], _, _ => nofun
  | v :: r, k, h => by
    unfold occ at h
    split at h
    · cases h
    · rename_i hv
      intro w hw
      rcases List.mem_cons.1 hw with rfl | hw
      · exact fun e => hv (decide_eq_true e)
      · exact occ_none h w hw
theorem occQ_some {t : Int} : ∀ {qs : List Queue} {k i b : Nat} {q : Queue} {w : Wait}, occQ t k qs = some (i, q, b, w) → (∃ j, i = k + j ∧ qs[j]? = some q) ∧ q.waiters[b]? = some w ∧ w.txn = t
  | [], _, _, _, _, _, h => by cases h
  | v :: r, k, i, b, q, w, h => by
    unfold occQ at h
    split at h
    · rename_i b' w' hv
      cases h
      obtain ⟨j, h1, h2, h3⟩ := occ_some hv
      rw [Nat.zero_add] at h1
      subst h1
      exact ⟨⟨0, rfl, rfl⟩, h2, h3⟩
    · obtain ⟨⟨j, h1, h2⟩, h3⟩ := occQ_some h
      exact ⟨⟨j + 1, by omega, by simpa using h2⟩, h3⟩
theorem indexW (n : Nat) (hn : 1003 ≤ n) (ws : List Wait) (hw : ws.length ≤ 1000) (t : Int) : slices_IndexFunc_Wait_f88 n ws t = some (match occ t 0 ws with | some (b, _) => (b : Int) | none => -1) := by
  unfold slices_IndexFunc_Wait_f88
  show slices_IndexFunc_Wait_f88_l1 n n (ws, t, (ws.length : Int), ((0 : Nat) : Int), ()) = _
  unfold slices_IndexFunc_Wait_f88_l1
  have key : ∀ (l : List Wait) (k : Nat), runL (fun i (w : Wait) (_ : Unit) => if decide (w.txn = t) then .inl (some (i : Int)) else .inr ()) (fun _ => some (-1)) l k () = some (match occ t k l with | some (b, _) => (b : Int) | none => -1) := by
    intro l
    induction l with
    | nil => intro k; rfl
    | cons w r ih =>
      intro k
      unfold occ
      cases h : decide (w.txn = t) with
      | true => simp [runL, h]
      | false => simp only [runL, h, Bool.false_eq_true, if_false]; exact ih (k + 1)
  rw [run_loop ws (fun i (_ : Unit) => (ws, t, (ws.length : Int), (i : Int), ())) (fun i w _ => if decide (w.txn = t) then .inl (some (i : Int)) else .inr ()) (fun _ => some (-1)) ?_ ?_ n 0 () (Nat.zero_le _) (by omega)]
  · rw [List.drop_zero]; exact key ws 0
  · intro r i s y hy hi
    simp only [lt_dec hi, cond_true, idx_nat, hy, Option.bind_some, locks_waits_1, ibeq, wrap_succ (show i < 4611686018427387904 by omega)]
    cases decide (y.txn = t) <;> rfl
  · intro r s
    simp only [ge_dec (Nat.lt_irrefl _), cond_false]
theorem waits_eq (n : Nat) (hn : 1003 ≤ n) (o : Locks) (hs : SmallL o.queues) (hq : o.queues.length ≤ 1000) (t : Int) : locks_waits n o t = some (match occQ t 0 o.queues with | some (i, _, b, _) => ((i : Int), (b : Int), true) | none => (0, 0, false)) := by
  unfold locks_waits
  show locks_waits_l1 n n (o.queues, (o.queues.length : Int), ((0 : Nat) : Int), t, ()) = _
  unfold locks_waits_l1
  have key : ∀ (l : List Queue) (k : Nat), runL (fun i (q : Queue) (_ : Unit) => match occ t 0 q.waiters with | some (b, _) => .inl (some ((i : Int), (b : Int), true)) | none => .inr ()) (fun _ => some (0, 0, false)) l k () = some (match occQ t k l with | some (i, _, b, _) => ((i : Int), (b : Int), true) | none => (0, 0, false)) := by
    intro l
    induction l with
    | nil => intro k; rfl
    | cons q r ih =>
      intro k
      unfold occQ
      cases h : occ t 0 q.waiters with
      | some x => simp [runL, h]
      | none => simp only [runL, h]; exact ih (k + 1)
  rw [run_loop o.queues (fun i (_ : Unit) => (o.queues, (o.queues.length : Int), (i : Int), t, ())) (fun i q _ => match occ t 0 q.waiters with | some (b, _) => .inl (some ((i : Int), (b : Int), true)) | none => .inr ()) (fun _ => some (0, 0, false)) ?_ ?_ n 0 () (Nat.zero_le _) (by omega)]
  · rw [List.drop_zero]; exact key _ 0
  · intro r i s q hy hi
    simp only [lt_dec hi, cond_true, idx_nat, hy, Option.bind_some, indexW n hn q.waiters (hs q (List.mem_of_getElem? hy)).2, wrap_succ (show i < 4611686018427387904 by omega)]
    cases occ t 0 q.waiters with
    | none => rfl
    | some x =>
      obtain ⟨b, w⟩ := x
      simp only [show ((b : Int) ≥ 0) by omega, decide_true, cond_true]
  · intro r s
    simp only [ge_dec (Nat.lt_irrefl _), cond_false]

/-! ### By whom -/
/-- Those who hold up the waiter w at place b. -/
def blk (q : Queue) (b : Nat) (w : Wait) (t : Int) : List Int := (q.holders.filter fun h => !decide (h.txn = t) && !goesB h.mode w.mode).map (·.txn) ++ (q.waiters.take b).map (·.txn)
def blkL (qs : List Queue) (t : Int) : List Int := match occQ t 0 qs with
  | some (_, q, b, w) => if lockB qs then cpZ (sortZ (blk q b w t)) else []
  | none => []
theorem foldl_app {α : Type} {f : α → Int} : ∀ {l : List α} {s : List Int}, l.foldl (fun s x => s ++ [f x]) s = s ++ l.map f
  | [], s => by simp
  | x :: l, s => by rw [List.foldl_cons, foldl_app]; simp
theorem foldl_appF {α : Type} {p : α → Bool} {f : α → Int} : ∀ {l : List α} {s : List Int}, l.foldl (fun s x => if p x then s ++ [f x] else s) s = s ++ (l.filter p).map f
  | [], s => by simp
  | x :: l, s => by
    rw [List.foldl_cons, foldl_appF]
    cases h : p x <;> simp [h]
theorem blockers_eq (n : Nat) (hn : 3003 ≤ n) (o : Locks) (hs : SmallL o.queues) (hq : o.queues.length ≤ 1000) (t : Int) : locks_Blockers n o t = some (blkL o.queues t) := by
  unfold locks_Blockers blkL
  rw [waits_eq n (by omega) o hs hq t, Option.bind_some]
  cases hoc : occQ t 0 o.queues with
  | none => rfl
  | some x =>
    obtain ⟨i, q, b, w⟩ := x
    obtain ⟨⟨j, hij, hqi⟩, hwb, hwt⟩ := occQ_some hoc
    rw [Nat.zero_add] at hij
    subst hij
    have hqm := hs q (List.mem_of_getElem? hqi)
    have hb : b < q.waiters.length := (List.getElem?_eq_some_iff.1 hwb).1
    simp only [Bool.not_true, cond_false, check_eq n (by omega) o hs, Option.bind_some, jn, idx_nat, hqi]
    cases hl : lockB o.queues with
    | false => rfl
    | true =>
      simp only [if_true, bne_self_eq_false, cond_false]
      show locks_Blockers_l1 n n (t, (b : Int), q.holders, (q.holders.length : Int), ((0 : Nat) : Int), q, [], ()) = _
      unfold locks_Blockers_l1
      rw [run_loopI q.holders (fun i (s : List Int) => (t, (b : Int), q.holders, (q.holders.length : Int), (i : Int), q, s, ())) (fun _ h s => .inr (if !decide (h.txn = t) && !goesB h.mode w.mode then s ++ [h.txn] else s)) (fun s => some (cpZ (sortZ (s ++ (q.waiters.take b).map (·.txn))))) (fun i s => s.length ≤ i) ?_ ?_ ?_ n 0 [] (Nat.zero_le _) (by omega) (Nat.le_refl _)]
      · rw [List.drop_zero, runL_fold (g := fun (h : Hold) s => if !decide (h.txn = t) && !goesB h.mode w.mode then s ++ [h.txn] else s), foldl_appF]
        rfl
      · intro i s h s' hx hI he
        cases he
        split
        · simp; omega
        · omega
      · intro r i s h hx hi hI
        simp only [lt_dec hi, cond_true, idx_nat, hx, Option.bind_some, jn, locks_Blockers_j2, ibne, hwb, goes_eq n (by omega), wrap_succ (show i < 4611686018427387904 by omega), app_lt (show s.length + [h.txn].length ≤ 1000000 by simp; omega) (show 8 ≤ 1000 by omega)]
        cases decide (h.txn = t) <;> cases goesB h.mode w.mode <;> rfl
      · intro r s hI
        have hsub : sub q.waiters 0 (b : Int) = some (q.waiters.take b) := by
          have := sub_ok (l := q.waiters) (a := 0) (b := b) (Nat.zero_le _) (by omega)
          simpa using this
        simp only [ge_dec (Nat.lt_irrefl _), cond_false, hsub, Option.bind_some]
        have htl : (q.waiters.take b).length ≤ 1000 := by rw [List.length_take]; omega
        have hI : s.length ≤ q.holders.length := hI
        show locks_Blockers_l3 n n (q.waiters.take b, ((q.waiters.take b).length : Int), ((0 : Nat) : Int), s, ()) = _
        unfold locks_Blockers_l3
        rw [run_loopI (q.waiters.take b) (fun i (s : List Int) => (q.waiters.take b, ((q.waiters.take b).length : Int), (i : Int), s, ())) (fun _ h s => .inr (s ++ [h.txn])) (fun s => some (cpZ (sortZ s))) (fun i s => s.length ≤ 1000 + i) ?_ ?_ ?_ n 0 s (Nat.zero_le _) (by omega) (by omega)]
        · rw [List.drop_zero, runL_fold (g := fun (h : Wait) s => s ++ [h.txn]), foldl_app]
        · intro i s h s' hx hI he
          cases he
          simp; omega
        · intro r i s h hx hi hI
          simp only [lt_dec hi, cond_true, idx_nat, hx, Option.bind_some, wrap_succ (show i < 4611686018427387904 by omega), app_lt (show s.length + [h.txn].length ≤ 1000000 by simp; omega) (show 8 ≤ 1000 by omega)]
        · intro r s hI
          have hI : s.length ≤ 1000 + (q.waiters.take b).length := hI
          simp only [ge_dec (Nat.lt_irrefl _), cond_false, srt_eq n s (by omega), Option.bind_some, cpt_eq n (sortZ s) (by rw [sortZ_len]; omega)]
end Go.Proofs.YtndehfninoimgaaGreat

/- Layer 8 (locks): by whom one is held up, by the document; it is the same. -/
namespace Go.Proofs.YtndehfninoimgaaGreat
open Go.Bur
set_option linter.unusedSimpArgs false
set_option linter.unusedVariables false
set_option maxRecDepth 100000

def SmallM (qs : List Queue) : Prop := ∀ q ∈ qs, q.holders.length ≤ 30 ∧ q.waiters.length ≤ 30
theorem SmallM.l {qs : List Queue} (h : SmallM qs) : SmallL qs := fun q hq => by have := h q hq; omega
theorem lock_len {qs : List Queue} (h : lockB qs = true) : qs.length ≤ 500 := by
  unfold lockB at h
  rw [Bool.and_eq_true, decide_eq_true_iff] at h
  exact h.1
theorem lock_q {qs : List Queue} (h : lockB qs = true) : ∀ q ∈ qs, qB q = true := fun q hq => by
  unfold lockB at h
  rw [Bool.and_eq_true, allFrom_iff] at h
  obtain ⟨i, hi⟩ := List.mem_iff_getElem?.1 hq
  have := h.2 i q hi
  unfold qP at this
  simp only [Bool.and_eq_true] at this
  unfold qB
  simp only [Bool.and_eq_true]
  exact ⟨⟨this.1.1.1, this.1.2⟩, this.2.1⟩
theorem wnod_q {q : Queue} (h : qB q = true) : (q.waiters.map (·.txn)).Nodup := by
  unfold qB waitersB at h
  simp only [Bool.and_eq_true, decide_eq_true_iff] at h
  exact h.2.1.2
theorem nod_from {qs : List Queue} : ∀ (t pre : List Queue), qs = pre ++ t → allFrom (qP qs) pre.length t = true → ((wT pre).map (·.txn)).Nodup → ((wT qs).map (·.txn)).Nodup
  | [], pre, he, _, h => by rw [he, List.append_nil]; exact h
  | q :: t, pre, he, ha, h => by
    rw [allFrom, Bool.and_eq_true] at ha
    have hq := ha.1
    unfold qP at hq
    rw [show qs.take pre.length = pre by rw [he]; simp] at hq
    simp only [Bool.and_eq_true, List.all_eq_true, mhas_metW] at hq
    refine nod_from t (pre ++ [q]) (by rw [he]; simp) (by rw [List.length_append]; exact ha.2) ?_
    have e : wT (pre ++ [q]) = wT pre ++ q.waiters := by simp [wT]
    rw [e, List.map_append, List.nodup_append]
    refine ⟨h, wnod_q (by unfold qB; simp only [Bool.and_eq_true]; exact ⟨⟨hq.1.1.1, hq.1.2⟩, hq.2.1⟩), fun a ha' b hb e => ?_⟩
    subst e
    obtain ⟨w, hw, rfl⟩ := List.mem_map.1 hb
    have := hq.2.2 w hw
    rw [decide_eq_true ha'] at this
    simp at this
theorem lock_nod {qs : List Queue} (h : lockB qs = true) : ((wT qs).map (·.txn)).Nodup := by
  unfold lockB at h
  rw [Bool.and_eq_true] at h
  exact nod_from qs [] rfl h.2 (by simp [wT])

/-! ### What is met -/
def metI (m : List (Int × Bool)) (l : List Int) : List (Int × Bool) := l.foldl (fun m x => (x, true) :: m) m
def stB (q : Queue) (t : Int) (b : Nat) (w : Wait) (m : List (Int × Bool)) : List (Int × Bool) := if decide (w.txn = t) then metI m (blk q b w t) else m
/-! ### The document's walk -/
/-! ### In order, the least first -/
theorem nod_get {ws : List Wait} (h : (ws.map (·.txn)).Nodup) {i j : Nat} {a b : Wait} (hi : ws[i]? = some a) (hj : ws[j]? = some b) (e : a.txn = b.txn) : i = j := by
  have h : ws.Pairwise fun a b => a.txn ≠ b.txn := List.pairwise_map.1 h
  have h1 := (List.getElem?_eq_some_iff.1 hi)
  have h2 := (List.getElem?_eq_some_iff.1 hj)
  obtain ⟨l1, rfl⟩ := h1
  obtain ⟨l2, rfl⟩ := h2
  have h3 := List.pairwise_iff_getElem.1 h
  rcases Nat.lt_trichotomy i j with hlt | rfl | hlt
  · exact absurd e (h3 i j l1 l2 hlt)
  · rfl
  · exact absurd e.symm (h3 j i l2 l1 hlt)
theorem occ_uniq {t : Int} : ∀ {qs : List Queue} {k : Nat}, ((wT qs).map (·.txn)).Nodup → ∀ q ∈ qs, ∀ b w, q.waiters[b]? = some w → w.txn = t → ∃ i, occQ t k qs = some (i, q, b, w)
  | [], _, _, _, h, _, _, _, _ => by cases h
  | v :: r, k, hnd, q, hq, b, w, hb, hw => by
    have e : wT (v :: r) = v.waiters ++ wT r := rfl
    rw [e, List.map_append, List.nodup_append] at hnd
    obtain ⟨n1, n2, n3⟩ := hnd
    have hwm := List.mem_of_getElem? hb
    unfold occQ
    rcases List.mem_cons.1 hq with rfl | hq
    · cases ho : occ t 0 q.waiters with
      | none => exact absurd hw (occ_none ho w hwm)
      | some x =>
        obtain ⟨b', w'⟩ := x
        obtain ⟨j, h1, h2, h3⟩ := occ_some ho
        rw [Nat.zero_add] at h1
        subst h1
        have := nod_get n1 h2 hb (h3.trans hw.symm)
        subst this
        rw [h2] at hb
        cases hb
        exact ⟨k, rfl⟩
    · cases ho : occ t 0 v.waiters with
      | none => exact occ_uniq n2 q hq b w hb hw
      | some x =>
        obtain ⟨b', w'⟩ := x
        obtain ⟨j, h1, h2, h3⟩ := occ_some ho
        exact absurd (h3.trans hw.symm) (n3 _ (List.mem_map.2 ⟨w', List.mem_of_getElem? h2, rfl⟩) _ (List.mem_map.2 ⟨w, List.mem_flatMap.2 ⟨q, hq, hwm⟩, rfl⟩))
end Go.Proofs.YtndehfninoimgaaGreat

/- Layer 8 (locks): what locks tell. -/
namespace Go.Proofs.YtndehfninoimgaaGreat
open Go.Bur
set_option linter.unusedSimpArgs false
set_option linter.unusedVariables false
set_option maxRecDepth 100000

/-! ### Rows that are the same -/
/-! ### For what one waits -/
theorem waitsC_eq (n : Nat) (hn : 1003 ≤ n) (o : Locks) (hs : SmallL o.queues) (hq : o.queues.length ≤ 1000) (t : Int) : locks_Waits n o t = some (match occQ t 0 o.queues with | some (_, q, _, w) => if lockB o.queues then (q.res, w.mode, true) else (Res.mk 0 false 0, 0, false) | none => (Res.mk 0 false 0, 0, false)) := by
  unfold locks_Waits
  rw [waits_eq n hn o hs hq t, Option.bind_some]
  cases hoc : occQ t 0 o.queues with
  | none => rfl
  | some x =>
    obtain ⟨i, q, b, w⟩ := x
    obtain ⟨⟨j, hij, hqi⟩, hwb, hwt⟩ := occQ_some hoc
    rw [Nat.zero_add] at hij
    subst hij
    simp only [Bool.not_true, cond_false, check_eq n hn o hs, Option.bind_some, jn, idx_nat, hqi, hwb]
    cases lockB o.queues <;> rfl
/-! ### What one holds -/
/-! ### Which mode one holds -/
theorem lock_srt {qs : List Queue} (h : lockB qs = true) : qs.Pairwise fun a b => ltQ a b = true := by
  unfold lockB at h
  rw [Bool.and_eq_true, allFrom_iff] at h
  have h1 : allFrom (stepA (fun _ => true) ltQ qs) 0 qs = true := allFrom_iff.2 fun i q hq => by
    have := h.2 i q hq
    unfold qP at this
    simp only [Bool.and_eq_true] at this
    unfold stepA
    rw [Bool.true_and]
    exact this.1.1.2
  rw [allFrom_chain, chain_iff (fun a b c => ltR_trans a.res b.res c.res)] at h1
  exact h1.2.1
theorem eqb_res {a b : Res} (h : Res.eqb a b = true) : a = b := by
  obtain ⟨a1, a2, a3⟩ := a
  obtain ⟨b1, b2, b3⟩ := b
  simp only [Res.eqb, Bool.and_true, Bool.and_eq_true, beq_iff_eq] at h
  obtain ⟨h1, h2, h3⟩ := h
  subst h1 h2 h3
  rfl
def modeD (t : Int) (x : Res) : List Queue → Int
  | [] => 0
  | q :: r => if Res.eqb q.res x then heldL q.holders t else modeD t x r
def modeC (t : Int) (x : Res) : List Queue → Int
  | [] => 0
  | q :: r => if !decide (heldL q.holders t = 0) && Res.eqb q.res x then heldL q.holders t else modeC t x r
theorem modeC_none {t : Int} {x : Res} : ∀ {qs : List Queue}, (∀ q ∈ qs, Res.eqb q.res x = false) → modeC t x qs = 0
  | [], _ => rfl
  | q :: r, h => by
    rw [modeC, h q (List.mem_cons_self ..), Bool.and_false]
    exact modeC_none fun p hp => h p (List.mem_cons_of_mem _ hp)
theorem ltR_irr {a : Res} : ltR a a = false := by
  unfold ltR
  exact decide_eq_false (by omega)
theorem modeCD {t : Int} {x : Res} : ∀ {qs : List Queue}, (qs.Pairwise fun a b => ltQ a b = true) → modeC t x qs = modeD t x qs
  | [], _ => rfl
  | q :: r, h => by
    obtain ⟨h1, h2⟩ := List.pairwise_cons.1 h
    rw [modeC, modeD]
    cases he : Res.eqb q.res x with
    | false => rw [Bool.and_false]; exact modeCD h2
    | true =>
      by_cases h0 : heldL q.holders t = 0
      · rw [decide_eq_true h0]
        simp only [Bool.not_true, Bool.false_and, Bool.false_eq_true, if_false, if_true]
        rw [h0]
        refine modeC_none fun p hp => ?_
        cases hpx : Res.eqb p.res x with
        | false => rfl
        | true =>
          have e : p.res = q.res := (eqb_res hpx).trans (eqb_res he).symm
          have := h1 p hp
          unfold ltQ at this
          rw [e, ltR_irr] at this; cases this
      · rw [decide_eq_false h0]; rfl
theorem modeC_eq (n : Nat) (hn : 1003 ≤ n) (o : Locks) (hs : SmallL o.queues) (hq : o.queues.length ≤ 1000) (t : Int) (x : Res) : locks_Mode n o t x = some (if lockB o.queues then modeC t x o.queues else 0) := by
  unfold locks_Mode
  rw [check_eq n hn o hs, Option.bind_some]
  cases hl : lockB o.queues with
  | false => rfl
  | true =>
    simp only [if_true, bne_self_eq_false, cond_false, locks_own, Option.bind_some]
    generalize hf : (fun (y3 : HL tabT [.st 5]) (z4 : HL tabT [.st 0, .int .i64]) => cond (Res.eqb y3.1.res z4.1) (some (1, (z4.1, y3.1.mode, ()))) (some (0, (z4.1, z4.2.1, ())))) = f
    have key : ∀ (l : List Queue) (k : Nat), (runL (fun _ (q : Queue) (_ : Unit) => if !decide (heldL q.holders t = 0) && Res.eqb q.res x then .inl (some (f, 1, (x, heldL q.holders t, ()))) else .inr ()) (fun _ => some (f, 0, (x, 0, ()))) l k ()).bind (fun y5 => sel y5.2.1 [some 0, some y5.2.2.2.1, some 0]) = some (modeC t x l) := by
      intro l
      induction l with
      | nil => intro k; rfl
      | cons q r ih =>
        intro k
        rw [modeC]
        cases h : !decide (heldL q.holders t = 0) && Res.eqb q.res x with
        | true => simp only [runL, h, if_true]; rfl
        | false => simp only [runL, h, Bool.false_eq_true, if_false]; exact ih (k + 1)
    rw [← key o.queues 0]
    congr 1
    unfold locks_own_1_fyd0
    show locks_own_1_fyd0_l1 n n (t, o.queues, (o.queues.length : Int), ((0 : Nat) : Int), f, 0, (x, 0, ()), ()) = _
    unfold locks_own_1_fyd0_l1
    rw [run_loop o.queues (fun i (_ : Unit) => (t, o.queues, (o.queues.length : Int), (i : Int), f, 0, (x, 0, ()), ())) (fun _ q _ => if !decide (heldL q.holders t = 0) && Res.eqb q.res x then .inl (some (f, 1, (x, heldL q.holders t, ()))) else .inr ()) (fun _ => some (f, 0, (x, 0, ()))) ?_ ?_ n 0 () (Nat.zero_le _) (by omega)]
    · rw [List.drop_zero]
    · intro r i s q hx hi
      simp only [lt_dec hi, cond_true, idx_nat, hx, Option.bind_some, held_eq n hn q (hs q (List.mem_of_getElem? hx)).1, ibne, wrap_succ (show i < 4611686018427387904 by omega)]
      cases decide (heldL q.holders t = 0) with
      | true => rfl
      | false =>
        simp only [Bool.not_false, cond_true, callY, ← hf, Bool.true_and]
        cases Res.eqb q.res x <;> rfl
    · intro r s
      simp only [ge_dec (Nat.lt_irrefl _), cond_false]
end Go.Proofs.YtndehfninoimgaaGreat

/- Layer 8 (locks): what is done with a copy. -/
namespace Go.Proofs.YtndehfninoimgaaGreat
open Go.Bur
set_option linter.unusedSimpArgs false
set_option linter.unusedVariables false
set_option maxRecDepth 100000

theorem cloneQ (n : Nat) (l : List Queue) (hl : l.length ≤ 1000) : slices_Clone_Queue n l = some l := clone_eq (by omega) (by omega)
theorem cloneH (n : Nat) (l : List Hold) (hl : l.length ≤ 1000) : slices_Clone_Hold n l = some l := clone_eq (by omega) (by omega)
theorem cloneW (n : Nat) (l : List Wait) (hl : l.length ≤ 1000) : slices_Clone_Wait n l = some l := clone_eq (by omega) (by omega)
theorem idxM_at {α : Type} {l : List α} {i : Nat} {x : α} (h : l[i]? = some x) : idxM l (i : Int) i = some x := by
  unfold idxM
  rw [if_pos rfl, idx_nat, h]
theorem sameI_at (i : Int) : sameI i i = some () := by
  unfold sameI
  rw [if_pos rfl]
theorem sameN_at (i : Nat) : sameN i i = some () := by
  unfold sameN
  rw [if_pos rfl]
theorem set_mk {qs : List Queue} {i : Nat} {q : Queue} (h : qs[i]? = some q) : List.set qs (Int.toNat (i : Int)) (Queue.mk q.res q.holders q.waiters) = qs := by
  rw [Int.toNat_natCast]
  exact set_same h
theorem with56 (n : Nat) (hn : 1003 ≤ n) (o : Locks) (hs : SmallL o.queues) (hq : o.queues.length ≤ 1000) (t : Int) (r : Res) (m a b : Int) :
    locks_with_f56 n o t r m a b = if lockB o.queues then (if txnB t then (locks_Ask_1 n o.queues r m a b).bind fun y => cond (y.1 != 0) (some (Locks.mk [], y.1, y.2.1, y.2.2.1, y.2.2.2.1, y.2.2.2.2.1)) (some (Locks.mk y.2.2.2.2.2, 0, y.2.1, y.2.2.1, y.2.2.2.1, y.2.2.2.2.1)) else some (Locks.mk [], 2, r, m, a, b)) else some (Locks.mk [], 180, r, m, a, b) := by
  unfold locks_with_f56
  rw [check_eq n hn o hs, Option.bind_some]
  cases hl : lockB o.queues with
  | false => rfl
  | true =>
    simp only [if_true, bne_self_eq_false, cond_false, txn_eq, Option.bind_some, cloneQ n _ hq]
    cases ht : txnB t with
    | false => rfl
    | true =>
      simp only [Bool.not_true, cond_false, if_true]
      show locks_with_f56_l1 n n ((o.queues.length : Int), ((0 : Nat) : Int), r, m, a, b, Locks.mk [], 0, o.queues, ()) = _
      unfold locks_with_f56_l1
      rw [run_loop o.queues (fun i (_ : Unit) => ((o.queues.length : Int), (i : Int), r, m, a, b, Locks.mk [], i, o.queues, ())) (fun _ _ s => .inr s) (fun _ => (locks_Ask_1 n o.queues r m a b).bind fun y => cond (y.1 != 0) (some (Locks.mk [], y.1, y.2.1, y.2.2.1, y.2.2.2.1, y.2.2.2.2.1)) (some (Locks.mk y.2.2.2.2.2, 0, y.2.1, y.2.2.1, y.2.2.2.1, y.2.2.2.2.1))) ?_ ?_ n 0 () (Nat.zero_le _) (by omega)]
      · rw [List.drop_zero, runL_skip]
      · intro r2 i s q hx hi
        have hqq := hs q (List.mem_of_getElem? hx)
        simp only [lt_dec hi, cond_true, idxM_at hx, Option.bind_some, sameI_at, cloneH n _ hqq.1, cloneW n _ hqq.2, set_mk hx, wrap_succ (show i < 4611686018427387904 by omega)]
      · intro r2 s
        simp only [ge_dec (Nat.lt_irrefl _), cond_false, sameN_at, Option.bind_some]
theorem with66 (n : Nat) (hn : 1003 ≤ n) (o : Locks) (hs : SmallL o.queues) (hq : o.queues.length ≤ 1000) (t a : Int) (b : List Int) :
    locks_with_f66 n o t a b = if lockB o.queues then (if txnB t then (locks_Release_1 n o.queues a b).bind fun y => cond (y.1 != 0) (some (Locks.mk [], y.1, y.2.1, y.2.2.1)) (some (Locks.mk y.2.2.2, 0, y.2.1, y.2.2.1)) else some (Locks.mk [], 2, a, b)) else some (Locks.mk [], 180, a, b) := by
  unfold locks_with_f66
  rw [check_eq n hn o hs, Option.bind_some]
  cases hl : lockB o.queues with
  | false => rfl
  | true =>
    simp only [if_true, bne_self_eq_false, cond_false, txn_eq, Option.bind_some, cloneQ n _ hq]
    cases ht : txnB t with
    | false => rfl
    | true =>
      simp only [Bool.not_true, cond_false, if_true]
      show locks_with_f66_l1 n n ((o.queues.length : Int), ((0 : Nat) : Int), a, b, Locks.mk [], 0, o.queues, ()) = _
      unfold locks_with_f66_l1
      rw [run_loop o.queues (fun i (_ : Unit) => ((o.queues.length : Int), (i : Int), a, b, Locks.mk [], i, o.queues, ())) (fun _ _ s => .inr s) (fun _ => (locks_Release_1 n o.queues a b).bind fun y => cond (y.1 != 0) (some (Locks.mk [], y.1, y.2.1, y.2.2.1)) (some (Locks.mk y.2.2.2, 0, y.2.1, y.2.2.1))) ?_ ?_ n 0 () (Nat.zero_le _) (by omega)]
      · rw [List.drop_zero, runL_skip]
      · intro r2 i s q hx hi
        have hqq := hs q (List.mem_of_getElem? hx)
        simp only [lt_dec hi, cond_true, idxM_at hx, Option.bind_some, sameI_at, cloneH n _ hqq.1, cloneW n _ hqq.2, set_mk hx, wrap_succ (show i < 4611686018427387904 by omega)]
      · intro r2 s
        simp only [ge_dec (Nat.lt_irrefl _), cond_false, sameN_at, Option.bind_some]
theorem ask_step {n : Nat} (hn : 1003 ≤ n) {o : Locks} (hs : SmallL o.queues) (hq : o.queues.length ≤ 1000) {t m m' t' w : Int} {r r' : Res} {qs : List Queue} (hl : lockB o.queues = true) (ht : txnB t = true) (h : locks_Ask_1 n o.queues r m t 0 = some (0, r', m', t', w, qs)) : locks_Ask n o t r m = some (Locks.mk qs, w, 0) := by
  unfold locks_Ask
  rw [with56 n hn o hs hq, if_pos hl, if_pos ht, h]
  rfl
theorem release_step {n : Nat} (hn : 1003 ≤ n) {o : Locks} (hs : SmallL o.queues) (hq : o.queues.length ≤ 1000) {t t' : Int} {g : List Int} {qs : List Queue} (hl : lockB o.queues = true) (ht : txnB t = true) (h : locks_Release_1 n o.queues t [] = some (0, t', g, qs)) : locks_Release n o t = some (Locks.mk qs, g, 0) := by
  unfold locks_Release
  rw [with66 n hn o hs hq, if_pos hl, if_pos ht, h]
  rfl
end Go.Proofs.YtndehfninoimgaaGreat

/- Layer 8 (locks): holders; who is granted; what is left without somebody. -/
namespace Go.Proofs.YtndehfninoimgaaGreat
open Go.Bur
set_option linter.unusedSimpArgs false
set_option linter.unusedVariables false
set_option maxRecDepth 100000

/-! ### A holder's place -/
abbrev cH (t : Int) : Hold → Int := fun h => cmpT h.txn t
theorem cmpT_lt {a b : Int} : cmpT a b < 0 ↔ a < b := by unfold cmpT; split <;> (try split) <;> omega
theorem cmpT_zero {a b : Int} : cmpT a b = 0 ↔ a = b := by unfold cmpT; split <;> (try split) <;> omega
theorem cmpT_pos {a b : Int} : 0 < cmpT a b ↔ b < a := by unfold cmpT; split <;> (try split) <;> omega
def SrtH (hs : List Hold) : Prop := hs.Pairwise fun a b => a.txn < b.txn
theorem cutH {hs : List Hold} (t : Int) (h : SrtH hs) : ∃ A y B, Cut (cH t) hs A y B := by
  refine cut_ex (h.imp fun {a b} hab ha => ?_)
  have h1 : ¬ a.txn < t := fun k => by have := cmpT_lt.2 k; unfold cH at ha; omega
  exact cmpT_pos.2 (by omega)
theorem byTxnH_eq (n : Nat) (h : Hold) (t : Int) : locks_byTxn n h t = some (cH t h) := by
  unfold locks_byTxn
  rw [cmpT_int]; rfl
theorem halfH {x : Nat} (h : x < 4611686018427387904) : shrP .u64 (IntKind.wrap .u64 (IntKind.wrap .i64 (x : Int))) 1 = some ((x / 2 : Nat) : Int) ∧ IntKind.wrap .i64 ((x / 2 : Nat) : Int) = ((x / 2 : Nat) : Int) := by
  have e0 : IntKind.wrap .i64 (x : Int) = x := wrap_in (by omega)
  rw [e0]
  have e : IntKind.wrap .u64 (x : Int) = x := by rw [IntKind.wrap_u64]; omega
  rw [e]
  have e2 : shrV .u64 (x : Int) 1 = ((x / 2 : Nat) : Int) := by
    unfold shrV
    have e3 : (2 : Int) ^ (min (Int.toNat 1) (IntKind.u64.bits)) = 2 := by decide
    rw [e3, Int.fdiv_eq_ediv_of_nonneg _ (by decide)]
    omega
  refine ⟨?_, wrap_in (by omega)⟩
  unfold shrP
  rw [if_pos (by decide), e2]
theorem hsearch {n : Nat} (hn : 1003 ≤ n) {l A B : List Hold} {y : Option Hold} {t : Int} (h : Cut (cH t) l A y B) (hl : l.length ≤ 1000) :
    slices_BinarySearchFunc_int_f105 n l t = some ((A.length : Int), y.isSome) := by
  have hlen := cut_len h
  show slices_BinarySearchFunc_int_f105_l1 n n (l, t, (l.length : Int), ((0 : Nat) : Int), (l.length : Int), ()) = _
  unfold slices_BinarySearchFunc_int_f105_l1
  refine bsearch (fun (i j : Nat) => (l, t, (l.length : Int), (i : Int), (j : Int), ())) A.length l.length _ (fun r i j hij hj hA => ?_) (fun r i j hij hj hA => ?_) (fun r => ?_) n 0 l.length (Nat.zero_le _) (by omega) (Nat.le_refl _) (by omega)
  · have e : ((i : Int) + (j : Int)) = ((i + j : Nat) : Int) := by omega
    obtain ⟨e1, e2⟩ := halfH (x := i + j) (by omega)
    have := cut_lt h (show (i + j) / 2 < l.length by omega) hA
    simp only [lt_dec hij, cond_true, e, e1, Option.bind_some, e2, idx_nat, get_some (show (i + j) / 2 < l.length by omega), byTxnH_eq n, jn, slices_BinarySearchFunc_int_f105_j2, decide_eq_true this, wrap_succ (show (i + j) / 2 < 4611686018427387904 by omega)]
  · have e : ((i : Int) + (j : Int)) = ((i + j : Nat) : Int) := by omega
    obtain ⟨e1, e2⟩ := halfH (x := i + j) (by omega)
    have := cut_ge h (show (i + j) / 2 < l.length by omega) hA
    simp only [lt_dec hij, cond_true, e, e1, Option.bind_some, e2, idx_nat, get_some (show (i + j) / 2 < l.length by omega), byTxnH_eq n, jn, slices_BinarySearchFunc_int_f105_j2, decide_eq_false this, cond_false]
  · simp only [ge_dec (Nat.lt_irrefl _), cond_false, jn]
    by_cases hA : A.length < l.length
    · simp only [lt_dec hA, cond_true, idx_nat, get_some hA, Option.bind_some, byTxnH_eq n, cut_at h hA]
    · rw [ge_dec hA, cut_end h hA]; rfl
/-- One more holder, or one with another mode. -/
def insH (hs : List Hold) (t m : Int) : List Hold := (hs.filter fun h => decide (h.txn < t)) ++ Hold.mk t m :: hs.filter fun h => decide (t < h.txn)
theorem cut_insH {hs A B : List Hold} {y : Option Hold} {t : Int} (h : Cut (cH t) hs A y B) (m : Int) : insH hs t m = A ++ Hold.mk t m :: B := by
  have ha : ∀ x ∈ A, x.txn < t := fun x hx => cmpT_lt.1 (h.lo x hx)
  have hb : ∀ x ∈ B, t < x.txn := fun x hx => cmpT_pos.1 (h.hi x hx)
  have hy : ∀ x ∈ y.toList, x.txn = t := fun x hx => cmpT_zero.1 (h.mid x (by simpa using hx))
  have f1 : (A.filter fun h => decide (h.txn < t)) = A := List.filter_eq_self.2 fun x hx => decide_eq_true (ha x hx)
  have f2 : (A.filter fun h => decide (t < h.txn)) = [] := List.filter_eq_nil_iff.2 fun x hx => by have := ha x hx; simp; omega
  have f3 : (B.filter fun h => decide (h.txn < t)) = [] := List.filter_eq_nil_iff.2 fun x hx => by have := hb x hx; simp; omega
  have f4 : (B.filter fun h => decide (t < h.txn)) = B := List.filter_eq_self.2 fun x hx => decide_eq_true (hb x hx)
  have f5 : (y.toList.filter fun h => decide (h.txn < t)) = [] := List.filter_eq_nil_iff.2 fun x hx => by have := hy x hx; simp; omega
  have f6 : (y.toList.filter fun h => decide (t < h.txn)) = [] := List.filter_eq_nil_iff.2 fun x hx => by have := hy x hx; simp; omega
  unfold insH
  rw [h.eq]
  simp only [List.filter_append, f1, f2, f3, f4, f5, f6, List.nil_append, List.append_nil]
theorem mem_insH {hs : List Hold} {t m : Int} {x : Hold} : x ∈ insH hs t m ↔ x = Hold.mk t m ∨ (x ∈ hs ∧ x.txn ≠ t) := by
  unfold insH
  simp only [List.mem_append, List.mem_cons, List.mem_filter, decide_eq_true_iff]
  constructor
  · rintro (⟨h, k⟩ | h | ⟨h, k⟩)
    · exact .inr ⟨h, by omega⟩
    · exact .inl h
    · exact .inr ⟨h, by omega⟩
  · rintro (h | ⟨h, k⟩)
    · exact .inr (.inl h)
    · by_cases hl : x.txn < t
      · exact .inl ⟨h, hl⟩
      · exact .inr (.inr ⟨h, by omega⟩)
theorem srt_insH {hs : List Hold} {t m : Int} (h : SrtH hs) : SrtH (insH hs t m) := by
  unfold SrtH insH
  rw [List.pairwise_append]
  refine ⟨h.filter _, List.pairwise_cons.2 ⟨fun x hx => of_decide_eq_true (List.mem_filter.1 hx).2, h.filter _⟩, fun a ha b hb => ?_⟩
  have h1 : a.txn < t := of_decide_eq_true (List.mem_filter.1 ha).2
  rcases List.mem_cons.1 hb with rfl | hb
  · exact h1
  · have h2 : t < b.txn := of_decide_eq_true (List.mem_filter.1 hb).2
    omega
theorem insH_len {hs : List Hold} {t m : Int} (h : SrtH hs) : (insH hs t m).length ≤ hs.length + 1 := by
  obtain ⟨A, y, B, hc⟩ := cutH t h
  have := cut_len hc
  rw [cut_insH hc, List.length_append, List.length_cons]
  omega
theorem holdsD_eq (n : Nat) (hn : 1003 ≤ n) {hs : List Hold} (h : SrtH hs) (hl : hs.length ≤ 900) (t m a c : Int) (b : Bool) (ws : List Wait) : locks_holds_d04 n t m a b c ws hs = some (a, b, c, ws, insH hs t m) := by
  obtain ⟨A, y, B, hc⟩ := cutH t h
  have hlen := cut_len hc
  unfold locks_holds_d04
  rw [hsearch hn hc (by omega), Option.bind_some, cut_insH hc]
  have hh := hc
  obtain ⟨he, _, hmid, _⟩ := hc
  cases y with
  | none =>
    simp only [Option.isSome_none, Bool.not_false, cond_true, slices_Insert_Hold, jn, locks_holds_d04_j1]
    rw [insL_cut hh (Hold.mk t 0) (by omega) (by omega)]
    simp only [Option.bind_some, idx_app, put_app]
  | some z =>
    have hz : z.txn = t := cmpT_zero.1 (hmid z rfl)
    simp only [Option.isSome_some, Bool.not_true, cond_false, jn, locks_holds_d04_j1]
    rw [he]
    simp only [Option.toList_some, List.singleton_append, Option.bind_some, idx_app, put_app, hz]
theorem holdsA_eq (n : Nat) (hn : 1003 ≤ n) {hs : List Hold} (h : SrtH hs) (hl : hs.length ≤ 900) (t m a c : Int) (b : Bool) (ws : List Wait) : locks_holds n t m a b c hs ws = some (a, b, c, insH hs t m, ws) := by
  obtain ⟨A, y, B, hc⟩ := cutH t h
  have hlen := cut_len hc
  unfold locks_holds
  rw [hsearch hn hc (by omega), Option.bind_some, cut_insH hc]
  have hh := hc
  obtain ⟨he, _, hmid, _⟩ := hc
  cases y with
  | none =>
    simp only [Option.isSome_none, Bool.not_false, cond_true, slices_Insert_Hold, jn, locks_holds_j1]
    rw [insL_cut hh (Hold.mk t 0) (by omega) (by omega)]
    simp only [Option.bind_some, idx_app, put_app]
  | some z =>
    have hz : z.txn = t := cmpT_zero.1 (hmid z rfl)
    simp only [Option.isSome_some, Bool.not_true, cond_false, jn, locks_holds_j1]
    rw [he]
    simp only [Option.toList_some, List.singleton_append, Option.bind_some, idx_app, put_app, hz]

/-! ### Who is granted -/
def pumpL : List Hold → List Wait → List Hold × List Wait × List Int
  | hs, [] => (hs, [], [])
  | hs, w :: ws => if goesL hs w.txn w.mode then ((pumpL (insH hs w.txn w.mode) ws).1, (pumpL (insH hs w.txn w.mode) ws).2.1, w.txn :: (pumpL (insH hs w.txn w.mode) ws).2.2) else (hs, w :: ws, [])
theorem pump_len : ∀ {ws : List Wait} {hs : List Hold}, SrtH hs → (pumpL hs ws).1.length + (pumpL hs ws).2.1.length ≤ hs.length + ws.length ∧ (pumpL hs ws).2.2.length + (pumpL hs ws).2.1.length = ws.length
  | [], hs, h => by simp [pumpL]
  | w :: ws, hs, h => by
    have h1 := pump_len (ws := ws) (srt_insH (t := w.txn) (m := w.mode) h)
    have h2 := insH_len (t := w.txn) (m := w.mode) h
    unfold pumpL
    split
    · simp only [List.length_cons]; omega
    · simp
theorem pump_eq (n : Nat) (hn : 1003 ≤ n) {hs : List Hold} {ws : List Wait} (h : SrtH hs) (hl : hs.length + ws.length ≤ 800) (a c : Int) (b : Bool) : locks_pump n a b c hs ws = some (a, b, c, (pumpL hs ws).2.1, (pumpL hs ws).1, (pumpL hs ws).2.2) := by
  unfold locks_pump
  simp only [jn]
  have key : ∀ (ws : List Wait) (hs : List Hold) (out : List Int) (k : Nat), SrtH hs → hs.length + ws.length ≤ 800 → out.length + ws.length ≤ 1000 → ws.length < k →
      locks_pump_l2 n (locks_pump_j1 n) k (a, b, c, ws, out, hs, ()) = some (a, b, c, (pumpL hs ws).2.1, (pumpL hs ws).1, out ++ (pumpL hs ws).2.2) := by
    intro ws
    induction ws with
    | nil =>
      intro hs out k h hl ho hk
      obtain ⟨k, rfl⟩ : ∃ k', k = k' + 1 := ⟨k - 1, by omega⟩
      unfold locks_pump_l2
      rw [loopF]
      simp only [List.length_nil, pumpL, List.append_nil]
      rfl
    | cons w ws ih =>
      intro hs out k h hl ho hk
      obtain ⟨k, rfl⟩ : ∃ k', k = k' + 1 := ⟨k - 1, by omega⟩
      simp only [List.length_cons] at hl ho hk
      obtain ⟨r, hr⟩ : ∃ r, r = locks_pump_l2 n (locks_pump_j1 n) k := ⟨_, rfl⟩
      have hi := insH_len (t := w.txn) (m := w.mode) h
      have ih := ih (insH hs w.txn w.mode) (out ++ [w.txn]) k (srt_insH h) (by omega) (by simp; omega) (by omega)
      rw [← hr] at ih
      unfold locks_pump_l2 at hr ⊢
      rw [loopF, ← hr]
      clear hr
      have h0 : idx (w :: ws) 0 = some w := by rw [show (0 : Int) = ((0 : Nat) : Int) from rfl, idx_nat]; rfl
      have hsub : sub (w :: ws) 1 ((w :: ws).length : Int) = some ws := by
        have := sub_ok (l := w :: ws) (a := 1) (b := (w :: ws).length) (by simp) (Nat.le_refl _)
        simpa using this
      simp only [decide_eq_true (show ((w :: ws).length : Int) > 0 by simp only [List.length_cons]; omega), cond_true, h0, Option.bind_some]
      have hg := goesL_eq n hn (Queue.mk (Res.mk a b c) hs (w :: ws)) (show hs.length ≤ 1000 by omega) w.txn w.mode
      rw [hg, Option.bind_some]
      show (cond (!goesL hs w.txn w.mode) _ _) = _
      unfold pumpL
      cases hgg : goesL hs w.txn w.mode with
      | false =>
        simp only [Bool.not_false, cond_true, locks_pump_j1, Bool.false_eq_true, if_false, List.append_nil]
      | true =>
        simp only [Bool.not_true, cond_false, holdsD_eq n hn h (show hs.length ≤ 900 by omega), Option.bind_some, hsub, app_lt (show out.length + [w.txn].length ≤ 1000000 by simp; omega) (show 8 ≤ 1000 by omega), ih, if_true]
        simp
  exact key ws hs [] n h hl (by simp; omega) (by omega)

/-! ### Without somebody -/
def pullQ (t : Int) (all : Bool) (q : Queue) : List Hold × List Wait × List Int := pumpL (if all then q.holders.filter fun h => !decide (h.txn = t) else q.holders) (q.waiters.filter fun w => !decide (w.txn = t))
def leftQ (t : Int) (all : Bool) (q : Queue) : Queue := Queue.mk q.res (pullQ t all q).1 (pullQ t all q).2.1
def leftL (t : Int) (all : Bool) (qs : List Queue) : List Queue := (qs.map (leftQ t all)).filter fun q => !decide (q.holders.length = 0)
def grantL (t : Int) (all : Bool) (qs : List Queue) : List Int := qs.flatMap fun q => (pullQ t all q).2.2
theorem delW (n : Nat) (hn : 1003 ≤ n) (l : List Wait) (hl : l.length ≤ 1000) (t : Int) : slices_DeleteFunc_Wait_f110 n t l = some (l.filter fun w => !decide (w.txn = t)) := by
  have h1 : slices_IndexFunc_Wait_f110 n l t = some (match l.findIdx? (fun w => decide (w.txn = t)) with | some j => (j : Int) | none => -1) := by
    unfold slices_IndexFunc_Wait_f110
    show slices_IndexFunc_Wait_f110_l1 n n (l, t, (l.length : Int), ((0 : Nat) : Int), ()) = _
    unfold slices_IndexFunc_Wait_f110_l1
    rw [run_loop l (fun i (_ : Unit) => (l, t, (l.length : Int), (i : Int), ())) (fun i x _ => if decide (x.txn = t) then .inl (some (i : Int)) else .inr ()) (fun _ => some (-1)) ?_ ?_ n 0 () (Nat.zero_le _) (by omega)]
    · rw [List.drop_zero, runL_find0 (f := fun i => some (i : Int))]
      cases l.findIdx? (fun w => decide (w.txn = t)) with
      | none => rfl
      | some j => simp
    · intro r i s x hx hi
      simp only [lt_dec hi, cond_true, idx_nat, hx, Option.bind_some, locks_without_1, ibeq, wrap_succ (show i < 4611686018427387904 by omega)]
      cases decide (x.txn = t) <;> rfl
    · intro r s
      simp only [ge_dec (Nat.lt_irrefl _), cond_false]
  unfold slices_DeleteFunc_Wait_f110
  rw [h1, Option.bind_some]
  exact delF_eq (p := fun w : Wait => decide (w.txn = t)) (l := l) (fun x _ => by unfold locks_without_1; rw [ibeq]) (by omega)
theorem delH (n : Nat) (hn : 1003 ≤ n) (l : List Hold) (hl : l.length ≤ 1000) (t : Int) : slices_DeleteFunc_Hold_f112 n t l = some (l.filter fun w => !decide (w.txn = t)) := by
  have h1 : slices_IndexFunc_Hold_f112 n l t = some (match l.findIdx? (fun w => decide (w.txn = t)) with | some j => (j : Int) | none => -1) := by
    unfold slices_IndexFunc_Hold_f112
    show slices_IndexFunc_Hold_f112_l1 n n (l, t, (l.length : Int), ((0 : Nat) : Int), ()) = _
    unfold slices_IndexFunc_Hold_f112_l1
    rw [run_loop l (fun i (_ : Unit) => (l, t, (l.length : Int), (i : Int), ())) (fun i x _ => if decide (x.txn = t) then .inl (some (i : Int)) else .inr ()) (fun _ => some (-1)) ?_ ?_ n 0 () (Nat.zero_le _) (by omega)]
    · rw [List.drop_zero, runL_find0 (f := fun i => some (i : Int))]
      cases l.findIdx? (fun w => decide (w.txn = t)) with
      | none => rfl
      | some j => simp
    · intro r i s x hx hi
      simp only [lt_dec hi, cond_true, idx_nat, hx, Option.bind_some, locks_without_2, ibeq, wrap_succ (show i < 4611686018427387904 by omega)]
      cases decide (x.txn = t) <;> rfl
    · intro r s
      simp only [ge_dec (Nat.lt_irrefl _), cond_false]
  unfold slices_DeleteFunc_Hold_f112
  rw [h1, Option.bind_some]
  exact delF_eq (p := fun w : Hold => decide (w.txn = t)) (l := l) (fun x _ => by unfold locks_without_2; rw [ibeq]) (by omega)
theorem delQ (n : Nat) (hn : 1003 ≤ n) (l : List Queue) (hl : l.length ≤ 1000) : slices_DeleteFunc_Queue_f115 n l = some (l.filter fun q => !decide (q.holders.length = 0)) := by
  have e : ∀ q : Queue, locks_without_3 n q = some (decide (q.holders.length = 0)) := fun q => by
    unfold locks_without_3
    rw [ibeq]
    congr 1
    exact decide_eq_decide.2 (by omega)
  have h1 : slices_IndexFunc_Queue_f115 n l = some (match l.findIdx? (fun q => decide (q.holders.length = 0)) with | some j => (j : Int) | none => -1) := by
    unfold slices_IndexFunc_Queue_f115
    show slices_IndexFunc_Queue_f115_l1 n n (l, (l.length : Int), ((0 : Nat) : Int), ()) = _
    unfold slices_IndexFunc_Queue_f115_l1
    rw [run_loop l (fun i (_ : Unit) => (l, (l.length : Int), (i : Int), ())) (fun i x _ => if decide (x.holders.length = 0) then .inl (some (i : Int)) else .inr ()) (fun _ => some (-1)) ?_ ?_ n 0 () (Nat.zero_le _) (by omega)]
    · rw [List.drop_zero, runL_find0 (f := fun i => some (i : Int))]
      cases l.findIdx? (fun q => decide (q.holders.length = 0)) with
      | none => rfl
      | some j => simp
    · intro r i s x hx hi
      simp only [lt_dec hi, cond_true, idx_nat, hx, Option.bind_some, e, wrap_succ (show i < 4611686018427387904 by omega)]
      cases decide (x.holders.length = 0) <;> rfl
    · intro r s
      simp only [ge_dec (Nat.lt_irrefl _), cond_false]
  unfold slices_DeleteFunc_Queue_f115
  rw [h1, Option.bind_some]
  exact delF_eq (p := fun q : Queue => decide (q.holders.length = 0)) (l := l) (fun x _ => e x) (by omega)
theorem grant_len {t : Int} {all : Bool} : ∀ {qs : List Queue}, (∀ q ∈ qs, SrtH q.holders ∧ q.waiters.length ≤ 300) → (grantL t all qs).length ≤ 300 * qs.length
  | [], _ => by simp [grantL]
  | q :: r, h => by
    have h1 := h q (List.mem_cons_self ..)
    have h2 := grant_len (t := t) (all := all) (qs := r) fun x hx => h x (List.mem_cons_of_mem _ hx)
    have h3 : (pullQ t all q).2.2.length ≤ 300 := by
      have hw := List.length_filter_le (fun w : Wait => !decide (w.txn = t)) q.waiters
      have hs : SrtH (if all then q.holders.filter fun h => !decide (h.txn = t) else q.holders) := by
        cases all with
        | true => exact h1.1.filter _
        | false => exact h1.1
      have := (pump_len (ws := q.waiters.filter fun w => !decide (w.txn = t)) hs).2
      unfold pullQ; omega
    show ((pullQ t all q).2.2 ++ grantL t all r).length ≤ _
    rw [List.length_append, List.length_cons]; omega
theorem without_eq (n : Nat) (hn : 1003 ≤ n) (t : Int) (all : Bool) (qs : List Queue) (hq : qs.length ≤ 1000) (hs : ∀ q ∈ qs, SrtH q.holders ∧ q.holders.length ≤ 300 ∧ q.waiters.length ≤ 300) : locks_without n t all qs = some (leftL t all qs, grantL t all qs) := by
  unfold locks_without
  show locks_without_l1 n n (all, (qs.length : Int), ((0 : Nat) : Int), t, [], 0, qs, ()) = _
  unfold locks_without_l1
  have up0 : upTo (leftQ t all) qs 0 = qs := upTo_zero
  have hgl : ∀ i, (grantL t all (qs.take i)).length ≤ 300 * i := fun i => by
    have := grant_len (t := t) (all := all) (qs := qs.take i) fun q hq => ⟨(hs q (List.mem_of_mem_take hq)).1, (hs q (List.mem_of_mem_take hq)).2.2⟩
    rw [List.length_take] at this
    have : min i qs.length ≤ i := Nat.min_le_left _ _
    omega
  have e0 : (all, (qs.length : Int), ((0 : Nat) : Int), t, ([] : List Int), 0, qs, ()) = (all, (qs.length : Int), ((0 : Nat) : Int), t, grantL t all (qs.take 0), 0, upTo (leftQ t all) qs 0, ()) := by rw [up0]; rfl
  rw [e0]
  refine loop_to (some (leftL t all qs, grantL t all qs)) qs.length (fun i (_ : Unit) => (all, (qs.length : Int), (i : Int), t, grantL t all (qs.take i), i, upTo (leftQ t all) qs i, ())) (fun _ _ => True) ?_ ?_ n 0 () (Nat.zero_le _) (by omega) trivial
  · intro r i _ hi _
    right
    refine ⟨(), ?_, trivial⟩
    have hget := upTo_get (f := leftQ t all) hi
    have hqq := hs qs[i] (List.getElem_mem hi)
    generalize hx : qs[i] = q at hget hqq
    have hw := List.length_filter_le (fun w : Wait => !decide (w.txn = t)) q.waiters
    have hh := List.length_filter_le (fun h : Hold => !decide (h.txn = t)) q.holders
    have hset : List.set (upTo (leftQ t all) qs i) (Int.toNat (i : Int)) (leftQ t all q) = upTo (leftQ t all) qs (i + 1) := by
      rw [Int.toNat_natCast, ← hx]; exact upTo_set hi
    have htk : grantL t all (qs.take (i + 1)) = grantL t all (qs.take i) ++ (pullQ t all q).2.2 := by
      rw [List.take_succ_eq_append_getElem hi, hx]
      simp [grantL]
    have hg2 := hgl i
    have hpl : (pullQ t all q).2.2.length ≤ 300 := by
      have := grant_len (t := t) (all := all) (qs := [q]) fun x hx => by rw [List.mem_singleton.1 hx]; exact ⟨hqq.1, hqq.2.2⟩
      simpa [grantL] using this
    have happ : app 8 (grantL t all (qs.take i)) (pullQ t all q).2.2 = some (grantL t all (qs.take (i + 1))) := by rw [htk]; exact app_lt (by omega) (by omega)
    simp only [lt_dec hi, cond_true, idxM_at hget, Option.bind_some, sameI_at, delW n hn q.waiters (by omega)]
    cases all with
    | true =>
      have hp := pump_eq n hn (hs := q.holders.filter fun h => !decide (h.txn = t)) (ws := q.waiters.filter fun w => !decide (w.txn = t)) (hqq.1.filter _) (by omega) q.res.table q.res.id q.res.isKey
      simp only [cond_true, delH n hn q.holders (by omega), Option.bind_some, hp]
      have happ : app 8 (grantL t true (qs.take i)) (pumpL (q.holders.filter fun h => !decide (h.txn = t)) (q.waiters.filter fun w => !decide (w.txn = t))).2.2 = _ := happ
      rw [happ, Option.bind_some, wrap_succ (by omega)]
      exact congrArg (fun z => r (true, (qs.length : Int), ((i + 1 : Nat) : Int), t, grantL t true (qs.take (i + 1)), i + 1, z, ())) hset
    | false =>
      have hp := pump_eq n hn (hs := q.holders) (ws := q.waiters.filter fun w => !decide (w.txn = t)) hqq.1 (by omega) q.res.table q.res.id q.res.isKey
      simp only [cond_false, Option.bind_some, hp]
      have happ : app 8 (grantL t false (qs.take i)) (pumpL q.holders (q.waiters.filter fun w => !decide (w.txn = t))).2.2 = _ := happ
      rw [happ, Option.bind_some, wrap_succ (by omega)]
      exact congrArg (fun z => r (false, (qs.length : Int), ((i + 1 : Nat) : Int), t, grantL t false (qs.take (i + 1)), i + 1, z, ())) hset
  · intro r _ _
    have hsn : sameN qs.length (qs.map (leftQ t all)).length = some () := by rw [List.length_map]; exact sameN_at _
    simp only [ge_dec (Nat.lt_irrefl _), cond_false, upTo_all, hsn, Option.bind_some, List.take_length]
    rw [delQ n hn _ (by simp; omega)]
    rfl
end Go.Proofs.YtndehfninoimgaaGreat

/- Layer 8 (locks): what is left without somebody may be. -/
namespace Go.Proofs.YtndehfninoimgaaGreat
open Go.Bur
set_option linter.unusedSimpArgs false
set_option linter.unusedVariables false
set_option maxRecDepth 100000

/-! ### What somebody holds -/
theorem held_mem {hs : List Hold} (h : SrtH hs) {x : Hold} (hx : x ∈ hs) : heldL hs x.txn = x.mode := by
  unfold heldL
  induction hs with
  | nil => cases hx
  | cons y t ih =>
    obtain ⟨h1, h2⟩ := List.pairwise_cons.1 h
    rw [List.find?_cons]
    rcases List.mem_cons.1 hx with rfl | hx
    · rw [decide_eq_true rfl]; rfl
    · have := h1 x hx
      rw [decide_eq_false (by omega)]
      exact ih h2 hx
theorem held_none {hs : List Hold} {t : Int} (h : ∀ x ∈ hs, x.txn ≠ t) : heldL hs t = 0 := by
  unfold heldL
  have : hs.find? (fun x => decide (x.txn = t)) = none := List.find?_eq_none.2 fun x hx => by simpa using h x hx
  rw [this]; rfl
theorem held_some {hs : List Hold} {t : Int} (h : heldL hs t ≠ 0) : ∃ x ∈ hs, x.txn = t ∧ x.mode = heldL hs t := by
  unfold heldL at h ⊢
  cases hf : hs.find? (fun x => decide (x.txn = t)) with
  | none => rw [hf] at h; exact absurd rfl h
  | some x => exact ⟨x, List.mem_of_find?_eq_some hf, by simpa using List.find?_some hf, rfl⟩
theorem held_ext {hs gs : List Hold} (h : SrtH hs) (g : SrtH gs) {t : Int} (he : ∀ x, x.txn = t → (x ∈ hs ↔ x ∈ gs)) : heldL hs t = heldL gs t := by
  by_cases hx : ∃ x ∈ hs, x.txn = t
  · obtain ⟨x, hx, rfl⟩ := hx
    rw [held_mem h hx, held_mem g ((he x rfl).1 hx)]
  · rw [held_none fun x hx' e => hx ⟨x, hx', e⟩, held_none fun x hx' e => hx ⟨x, (he x e).2 hx', e⟩]
theorem held_ins {hs : List Hold} (h : SrtH hs) {t m x : Int} (hx : x ≠ t) : heldL (insH hs t m) x = heldL hs x := by
  refine held_ext (srt_insH h) h fun y hy => ?_
  rw [mem_insH]
  constructor
  · rintro (rfl | ⟨h, _⟩)
    · exact absurd hy.symm hx
    · exact h
  · intro h; exact .inr ⟨h, by omega⟩
theorem held_ins_self {hs : List Hold} (h : SrtH hs) {t m : Int} : heldL (insH hs t m) t = m := held_mem (srt_insH h) (x := Hold.mk t m) (mem_insH.2 (.inl rfl))
theorem held_del {hs : List Hold} (h : SrtH hs) {t x : Int} (hx : x ≠ t) : heldL (hs.filter fun y => !decide (y.txn = t)) x = heldL hs x := by
  refine held_ext (h.filter _) h fun y hy => ?_
  rw [List.mem_filter]
  exact ⟨fun h => h.1, fun h => ⟨h, by simp; omega⟩⟩

/-! ### Queues that may be -/
theorem goesB_comm (a b : Int) : goesB a b = goesB b a := by
  unfold goesB
  rw [Bool.eq_iff_iff]
  simp only [Bool.and_eq_true, Bool.or_eq_true, decide_eq_true_iff]
  constructor <;> (rintro ⟨⟨h1, h2⟩, h3⟩; exact ⟨⟨h2, h1⟩, by omega⟩)
theorem goesL_iff {hs : List Hold} {t m : Int} : goesL hs t m = true ↔ ∀ x ∈ hs, x.txn = t ∨ goesB x.mode m = true := by
  unfold goesL
  rw [List.all_eq_true]
  simp only [Bool.or_eq_true, decide_eq_true_iff]
structure PV (r : Res) (hs : List Hold) (ws : List Wait) : Prop where
  srt : SrtH hs
  ok : ∀ h ∈ hs, txnB h.txn = true ∧ modeB r h.mode = true
  fit : ∀ h ∈ hs, goesL hs h.txn h.mode = true
  wok : ∀ w ∈ ws, wS r hs w = true
  wr : ws.Pairwise fun a b => wR a b = true
  nd : (ws.map (·.txn)).Nodup
theorem wS_iff {r : Res} {hs : List Hold} {w : Wait} : wS r hs w = true ↔ txnB w.txn = true ∧ modeB r w.mode = true ∧ w.held = heldL hs w.txn ∧ coversB w.held w.mode = false ∧ coversB w.mode w.held = true := by
  unfold wS
  simp only [Bool.and_eq_true, decide_eq_true_iff, Bool.not_eq_true']
  constructor
  · rintro ⟨⟨⟨⟨a, b⟩, c⟩, d⟩, e⟩; exact ⟨a, b, c, d, e⟩
  · rintro ⟨a, b, c, d, e⟩; exact ⟨⟨⟨⟨a, b⟩, c⟩, d⟩, e⟩
theorem qB_iff {q : Queue} : qB q = true ↔ resB q.res = true ∧ q.holders ≠ [] ∧ PV q.res q.holders q.waiters ∧ firstB q.holders q.waiters = true := by
  unfold qB holdersB waitersB
  simp only [Bool.and_eq_true, chain_iff ltH_trans, chain_iff wR_trans, decide_eq_true_iff, Bool.not_eq_true', List.isEmpty_eq_false_iff]
  have hlt : (q.holders.Pairwise fun a b => ltH a b = true) ↔ SrtH q.holders := by
    unfold SrtH ltH
    simp only [decide_eq_true_iff]
  rw [hlt]
  constructor
  · rintro ⟨⟨h1, h2, h3, h4, _⟩, ⟨⟨h5, h6, _⟩, h7⟩, h8⟩
    refine ⟨h1, h2, ⟨h4, fun h hh => ?_, fun h hh => ?_, h5, h6, h7⟩, h8⟩
    · have := h3 h hh
      unfold hB at this
      simp only [Bool.and_eq_true] at this
      exact this.1
    · have := h3 h hh
      unfold hB at this
      simp only [Bool.and_eq_true] at this
      exact this.2
  · rintro ⟨h1, h2, h3, h4⟩
    refine ⟨⟨h1, h2, fun h hh => ?_, h3.srt, nofun⟩, ⟨⟨h3.wok, h3.wr, nofun⟩, h3.nd⟩, h4⟩
    unfold hB
    simp only [Bool.and_eq_true]
    exact ⟨h3.ok h hh, h3.fit h hh⟩
theorem PV.del {r : Res} {hs : List Hold} {ws : List Wait} (h : PV r hs ws) (t : Int) (all : Bool) : PV r (if all then hs.filter fun x => !decide (x.txn = t) else hs) (ws.filter fun w => !decide (w.txn = t)) := by
  have hsub : ∀ x, x ∈ (if all then hs.filter fun x => !decide (x.txn = t) else hs) → x ∈ hs := fun x hx => by
    cases all with
    | true => exact (List.mem_filter.1 hx).1
    | false => exact hx
  have hsrt : SrtH (if all then hs.filter fun x => !decide (x.txn = t) else hs) := by
    cases all with
    | true => exact h.srt.filter _
    | false => exact h.srt
  refine ⟨hsrt, fun x hx => h.ok x (hsub x hx), fun x hx => goesL_iff.2 fun y hy => goesL_iff.1 (h.fit x (hsub x hx)) y (hsub y hy), fun w hw => ?_, h.wr.filter _, ?_⟩
  · obtain ⟨hw, hne⟩ := List.mem_filter.1 hw
    have hne : w.txn ≠ t := by simpa using hne
    obtain ⟨a, b, c, d⟩ := wS_iff.1 (h.wok w hw)
    refine wS_iff.2 ⟨a, b, ?_, d⟩
    rw [c]
    cases all with
    | true => exact (held_del h.srt hne).symm
    | false => rfl
  · exact h.nd.sublist ((List.filter_sublist).map _)
theorem PV.grant {r : Res} {hs : List Hold} {w : Wait} {ws : List Wait} (h : PV r hs (w :: ws)) (hg : goesL hs w.txn w.mode = true) : PV r (insH hs w.txn w.mode) ws := by
  obtain ⟨a, b, c, d, e⟩ := wS_iff.1 (h.wok w (List.mem_cons_self ..))
  have hnd : w.txn ∉ ws.map (·.txn) ∧ (ws.map (·.txn)).Nodup := List.nodup_cons.1 h.nd
  have hwr := List.pairwise_cons.1 h.wr
  refine ⟨srt_insH h.srt, fun x hx => ?_, fun x hx => goesL_iff.2 fun y hy => ?_, fun v hv => ?_, hwr.2, hnd.2⟩
  · rcases mem_insH.1 hx with rfl | ⟨hx, _⟩
    · exact ⟨a, b⟩
    · exact h.ok x hx
  · rcases mem_insH.1 hx with rfl | ⟨hx, hxn⟩
    · rcases mem_insH.1 hy with rfl | ⟨hy, hyn⟩
      · exact .inl rfl
      · exact goesL_iff.1 hg y hy
    · rcases mem_insH.1 hy with rfl | ⟨hy, hyn⟩
      · right
        rw [goesB_comm]
        exact (goesL_iff.1 hg x hx).resolve_left hxn
      · exact goesL_iff.1 (h.fit x hx) y hy
  · obtain ⟨a', b', c', d'⟩ := wS_iff.1 (h.wok v (List.mem_cons_of_mem _ hv))
    refine wS_iff.2 ⟨a', b', ?_, d'⟩
    have hne : v.txn ≠ w.txn := fun e => hnd.1 (by rw [← e]; exact List.mem_map.2 ⟨v, hv, rfl⟩)
    rw [held_ins h.srt hne]
    exact c'
theorem PV.pump {r : Res} : ∀ {ws : List Wait} {hs : List Hold}, PV r hs ws → PV r (pumpL hs ws).1 (pumpL hs ws).2.1 ∧ firstB (pumpL hs ws).1 (pumpL hs ws).2.1 = true
  | [], hs, h => ⟨h, rfl⟩
  | w :: ws, hs, h => by
    unfold pumpL
    cases hg : goesL hs w.txn w.mode with
    | true => exact (h.grant hg).pump
    | false =>
      simp only [Bool.false_eq_true, if_false]
      exact ⟨h, by simp [firstB, hg]⟩
theorem pump_sub : ∀ {ws : List Wait} {hs : List Hold}, (pumpL hs ws).2.1.Sublist ws
  | [], hs => List.Sublist.refl _
  | w :: ws, hs => by
    unfold pumpL
    split
    · exact (pump_sub (ws := ws)).cons w
    · exact List.Sublist.refl _
theorem left_q {q : Queue} (h : qB q = true) (t : Int) (all : Bool) (hne : (leftQ t all q).holders ≠ []) : qB (leftQ t all q) = true := by
  obtain ⟨h1, h2, h3, h4⟩ := qB_iff.1 h
  have hp := (h3.del t all).pump
  exact qB_iff.2 ⟨h1, hne, hp.1, hp.2⟩

/-! ### Locks that may be -/
theorem lockB_of {qs : List Queue} (h1 : qs.length ≤ 500) (h2 : ∀ q ∈ qs, qB q = true) (h3 : qs.Pairwise fun a b => ltQ a b = true) (h4 : ((wT qs).map (·.txn)).Nodup) : lockB qs = true := by
  unfold lockB
  rw [Bool.and_eq_true, decide_eq_true_iff, allFrom_iff]
  refine ⟨h1, fun i q hq => ?_⟩
  have hm := List.mem_of_getElem? hq
  have hqb := h2 q hm
  unfold qB at hqb
  simp only [Bool.and_eq_true] at hqb
  have hch : chainB (fun _ => true) ltQ none qs = true := (chain_iff (fun a b c => ltR_trans a.res b.res c.res)).2 ⟨fun _ _ => rfl, h3, nofun⟩
  rw [← allFrom_chain, allFrom_iff] at hch
  have hp := hch i q hq
  unfold stepA at hp
  rw [Bool.true_and] at hp
  rw [Nat.zero_add] at hp ⊢
  unfold qP
  simp only [Bool.and_eq_true, List.all_eq_true, mhas_metW]
  refine ⟨⟨⟨hqb.1.1, hp⟩, hqb.1.2⟩, hqb.2, fun w hw => ?_⟩
  have hlt := (List.getElem?_eq_some_iff.1 hq).1
  have hsplit : qs = qs.take i ++ q :: qs.drop (i + 1) := by
    have := List.take_append_drop i qs
    rw [List.drop_eq_getElem_cons hlt, (List.getElem?_eq_some_iff.1 hq).2] at this
    exact this.symm
  rw [hsplit] at h4
  have e : wT (qs.take i ++ q :: qs.drop (i + 1)) = wT (qs.take i) ++ (q.waiters ++ wT (qs.drop (i + 1))) := by simp [wT]
  rw [e, List.map_append, List.nodup_append] at h4
  have : w.txn ∉ (wT (qs.take i)).map (·.txn) := fun hx => h4.2.2 _ hx _ (List.mem_map.2 ⟨w, List.mem_append_left _ hw, rfl⟩) rfl
  simp [mhas, this]
theorem wT_sub {f : Queue → Queue} {p : Queue → Bool} (hf : ∀ q, (f q).waiters.Sublist q.waiters) : ∀ qs : List Queue, (wT ((qs.map f).filter p)).Sublist (wT qs)
  | [] => List.Sublist.refl _
  | q :: r => by
    have ih := wT_sub (p := p) hf r
    have e : wT (q :: r) = q.waiters ++ wT r := rfl
    rw [e, List.map_cons, List.filter_cons]
    split
    · have e2 : wT (f q :: (r.map f).filter p) = (f q).waiters ++ wT ((r.map f).filter p) := rfl
      rw [e2]
      exact (hf q).append ih
    · exact ih.trans (List.sublist_append_right _ _)
theorem left_sub (t : Int) (all : Bool) (q : Queue) : (leftQ t all q).waiters.Sublist q.waiters := pump_sub.trans List.filter_sublist
theorem left_ok {qs : List Queue} (h : lockB qs = true) (t : Int) (all : Bool) : lockB (leftL t all qs) = true := by
  have hl := lock_len h
  refine lockB_of ?_ (fun q hq => ?_) ?_ ?_
  · unfold leftL
    have := List.length_filter_le (fun q : Queue => !decide (q.holders.length = 0)) (qs.map (leftQ t all))
    rw [List.length_map] at this; omega
  · obtain ⟨hq, hne⟩ := List.mem_filter.1 hq
    obtain ⟨p, hp, rfl⟩ := List.mem_map.1 hq
    exact left_q (lock_q h p hp) t all fun e => by rw [e] at hne; simp at hne
  · exact (List.pairwise_map.2 (lock_srt h)).filter _
  · exact (lock_nod h).sublist ((wT_sub (left_sub t all) qs).map _)
end Go.Proofs.YtndehfninoimgaaGreat

/- Layer 8 (locks): to ask. -/
namespace Go.Proofs.YtndehfninoimgaaGreat
open Go.Bur
set_option linter.unusedSimpArgs false
set_option linter.unusedVariables false
set_option maxRecDepth 100000

/-! ### Sups -/
def supM (a b : Int) : Int := if coversB a b then a else if coversB b a then b else if (a = 2 ∧ b = 3) ∨ (a = 3 ∧ b = 2) then 4 else 5
def ofM (r : Res) (m : Int) : Bool := if r.isKey then keyM m else tabM m
theorem ofM_is {r : Res} {m : Int} (h : ofM r m = true) : isM m = true := by
  unfold ofM at h
  split at h
  · cases hm : isM m with
    | true => rfl
    | false => rw [keyM_is hm] at h; cases h
  · unfold tabM at h
    rw [Bool.and_eq_true] at h
    exact h.1
theorem modeB_iff {r : Res} {m : Int} : modeB r m = true ↔ m ≠ 0 ∧ ofM r m = true := by
  unfold modeB ofM
  rw [Bool.and_eq_true, Bool.not_eq_true', decide_eq_false_iff_not]
theorem ofM_zero (r : Res) : ofM r 0 = true := by
  unfold ofM
  cases r.isKey <;> decide
theorem sup_eq (n : Nat) (hn : 40 ≤ n) {r : Res} {a b : Int} (ha : ofM r a = true) (hb : ofM r b = true) : mode_Sup n a b = some (supM a b, 0) := by
  obtain ⟨n, rfl⟩ : ∃ m, n = m + 40 := ⟨n - 40, by omega⟩
  unfold ofM at ha hb
  cases hk : r.isKey with
  | true =>
    rw [hk, if_pos rfl] at ha hb
    have ha : a = 0 ∨ a = 3 ∨ a = 5 ∨ a = 6 := of_decide_eq_true ha
    have hb : b = 0 ∨ b = 3 ∨ b = 5 ∨ b = 6 := of_decide_eq_true hb
    clear hk
    rcases ha with rfl | rfl | rfl | rfl <;> rcases hb with rfl | rfl | rfl | rfl <;> (show mode_Sup (n + 40) _ _ = some _; kernel_rfl)
  | false =>
    rw [hk, if_neg (by decide)] at ha hb
    unfold tabM at ha hb
    rw [Bool.and_eq_true, Bool.not_eq_true', decide_eq_false_iff_not] at ha hb
    rcases isM_cases ha.1 with rfl | rfl | rfl | rfl | rfl | rfl | rfl <;> rcases isM_cases hb.1 with rfl | rfl | rfl | rfl | rfl | rfl | rfl <;> first | exact absurd rfl ha.2 | exact absurd rfl hb.2 | kernel_rfl
theorem sup_ok {r : Res} {a b : Int} (ha : ofM r a = true) (hb : ofM r b = true) : ofM r (supM a b) = true ∧ coversB (supM a b) a = true ∧ coversB (supM a b) b = true := by
  unfold ofM at *
  cases hk : r.isKey with
  | true =>
    rw [hk, if_pos rfl] at ha hb
    have ha : a = 0 ∨ a = 3 ∨ a = 5 ∨ a = 6 := of_decide_eq_true ha
    have hb : b = 0 ∨ b = 3 ∨ b = 5 ∨ b = 6 := of_decide_eq_true hb
    rcases ha with rfl | rfl | rfl | rfl <;> rcases hb with rfl | rfl | rfl | rfl <;> decide
  | false =>
    rw [hk, if_neg (by decide)] at ha hb
    unfold tabM at ha hb
    rw [Bool.and_eq_true, Bool.not_eq_true', decide_eq_false_iff_not] at ha hb
    rcases isM_cases ha.1 with rfl | rfl | rfl | rfl | rfl | rfl | rfl <;> rcases isM_cases hb.1 with rfl | rfl | rfl | rfl | rfl | rfl | rfl <;> first | decide | exact absurd rfl ha.2 | exact absurd rfl hb.2
theorem covers_is {a b : Int} (h : coversB a b = true) : isM a = true ∧ isM b = true := by
  unfold coversB at h
  simp only [Bool.and_eq_true] at h
  exact ⟨h.1.1, h.1.2⟩
theorem covers_trans {a b c : Int} (h : coversB a b = true) (k : coversB b c = true) : coversB a c = true := by
  have h1 := covers_is h
  have h2 := covers_is k
  revert h k
  rcases isM_cases h1.1 with rfl | rfl | rfl | rfl | rfl | rfl | rfl <;> rcases isM_cases h1.2 with rfl | rfl | rfl | rfl | rfl | rfl | rfl <;> rcases isM_cases h2.2 with rfl | rfl | rfl | rfl | rfl | rfl | rfl <;> decide
theorem covers_zero {m : Int} (hm : m ≠ 0) : coversB 0 m = false := by
  cases h : coversB 0 m with
  | false => rfl
  | true =>
    have h1 := (covers_is h).2
    revert h hm
    rcases isM_cases h1 with rfl | rfl | rfl | rfl | rfl | rfl | rfl <;> decide
theorem covers_self {m : Int} (h : isM m = true) : coversB m m = true := by
  rcases isM_cases h with rfl | rfl | rfl | rfl | rfl | rfl | rfl <;> decide
/-- What goes with more goes with less. -/
theorem goes_less {a b c : Int} (h : coversB a b = true) (k : goesB a c = true) : goesB b c = true := by
  have h1 := covers_is h
  have h2 : isM c = true := by
    unfold goesB at k
    simp only [Bool.and_eq_true] at k
    exact k.1.2
  revert h k
  rcases isM_cases h1.1 with rfl | rfl | rfl | rfl | rfl | rfl | rfl <;> rcases isM_cases h1.2 with rfl | rfl | rfl | rfl | rfl | rfl | rfl <;> rcases isM_cases h2 with rfl | rfl | rfl | rfl | rfl | rfl | rfl <;> decide

/-! ### A queue's place -/
abbrev cQ (r : Res) : Queue → Int := fun q => cR q.res r
theorem cR_cases (a b : Res) : (ltR a b = true ∧ cR a b = -1) ∨ (a = b ∧ cR a b = 0) ∨ (ltR b a = true ∧ cR a b = 1) := by
  have hr : rankR a = rankR b → a.isKey = b.isKey := fun h => by
    unfold rankR at h
    cases ha : a.isKey <;> cases hb : b.isKey <;> simp [ha, hb] at h ⊢
  unfold cR
  rcases cmpT_cases a.table b.table with ⟨h, e⟩ | ⟨h, e⟩ | ⟨h, e⟩
  · left; refine ⟨ltR_iff.2 (.inl h), ?_⟩; rw [e]; rfl
  · rcases cmpT_cases (rankR a) (rankR b) with ⟨h2, e2⟩ | ⟨h2, e2⟩ | ⟨h2, e2⟩
    · left; refine ⟨ltR_iff.2 (.inr ⟨h, .inl h2⟩), ?_⟩; rw [e, e2]; rfl
    · rcases cmpT_cases a.id b.id with ⟨h3, e3⟩ | ⟨h3, e3⟩ | ⟨h3, e3⟩
      · left; refine ⟨ltR_iff.2 (.inr ⟨h, .inr ⟨h2, h3⟩⟩), ?_⟩; rw [e, e2, e3]; rfl
      · right; left
        refine ⟨?_, by rw [e, e2, e3]; rfl⟩
        have hk := hr h2
        cases a; cases b; simp only at h hk h3; subst h hk h3; rfl
      · right; right; refine ⟨ltR_iff.2 (.inr ⟨h.symm, .inr ⟨h2.symm, h3⟩⟩), ?_⟩; rw [e, e2, e3]; rfl
    · right; right; refine ⟨ltR_iff.2 (.inr ⟨h.symm, .inl h2⟩), ?_⟩; rw [e, e2]; rfl
  · right; right; refine ⟨ltR_iff.2 (.inl h), ?_⟩; rw [e]; rfl
theorem cR_lt {a b : Res} (h : cR a b < 0) : ltR a b = true := by rcases cR_cases a b with ⟨h1, _⟩ | ⟨_, h1⟩ | ⟨_, h1⟩ <;> first | exact h1 | omega
theorem cR_zero {a b : Res} (h : cR a b = 0) : a = b := by rcases cR_cases a b with ⟨_, h1⟩ | ⟨h1, _⟩ | ⟨_, h1⟩ <;> first | exact h1 | omega
theorem cR_pos {a b : Res} (h : 0 < cR a b) : ltR b a = true := by rcases cR_cases a b with ⟨_, h1⟩ | ⟨_, h1⟩ | ⟨h1, _⟩ <;> first | exact h1 | omega
theorem ltR_irr' {a : Res} : ltR a a = false := by
  unfold ltR
  exact decide_eq_false (by omega)
theorem ltR_pos {a b : Res} (h : ltR b a = true) : 0 < cR a b := by
  rcases cR_cases a b with ⟨h1, _⟩ | ⟨h1, _⟩ | ⟨_, h1⟩
  · have := ltR_trans _ _ _ h1 h
    rw [ltR_irr'] at this; cases this
  · subst h1
    rw [ltR_irr'] at h; cases h
  · omega
theorem cutQ' {qs : List Queue} (r : Res) (h : qs.Pairwise fun a b => ltQ a b = true) : ∃ A y B, Cut (cQ r) qs A y B := by
  refine cut_ex (h.imp fun {a b} hab ha => ?_)
  refine ltR_pos ?_
  have hab : ltR a.res b.res = true := hab
  rcases cR_cases a.res r with ⟨_, h1⟩ | ⟨h1, _⟩ | ⟨h1, _⟩
  · unfold cQ at ha; omega
  · rw [← h1]; exact hab
  · exact ltR_trans _ _ _ h1 hab
theorem qsearch {n : Nat} (hn : 1003 ≤ n) {l A B : List Queue} {y : Option Queue} {r : Res} (h : Cut (cQ r) l A y B) (hl : l.length ≤ 1000) :
    slices_BinarySearchFunc_Res_f59 n l r = some ((A.length : Int), y.isSome) := by
  have hlen := cut_len h
  have e0 : ∀ q : Queue, locks_Ask_1_1 n q r = some (cQ r q) := fun q => by
    unfold locks_Ask_1_1
    rw [compareR n (by omega)]; rfl
  show slices_BinarySearchFunc_Res_f59_l1 n n (l, (l.length : Int), ((0 : Nat) : Int), (l.length : Int), r, ()) = _
  unfold slices_BinarySearchFunc_Res_f59_l1
  refine bsearch (fun (i j : Nat) => (l, (l.length : Int), (i : Int), (j : Int), r, ())) A.length l.length _ (fun k i j hij hj hA => ?_) (fun k i j hij hj hA => ?_) (fun k => ?_) n 0 l.length (Nat.zero_le _) (by omega) (Nat.le_refl _) (by omega)
  · have e : ((i : Int) + (j : Int)) = ((i + j : Nat) : Int) := by omega
    obtain ⟨e1, e2⟩ := halfH (x := i + j) (by omega)
    have := cut_lt h (show (i + j) / 2 < l.length by omega) hA
    simp only [lt_dec hij, cond_true, e, e1, Option.bind_some, e2, idx_nat, get_some (show (i + j) / 2 < l.length by omega), e0, jn, slices_BinarySearchFunc_Res_f59_j2, decide_eq_true this, wrap_succ (show (i + j) / 2 < 4611686018427387904 by omega)]
  · have e : ((i : Int) + (j : Int)) = ((i + j : Nat) : Int) := by omega
    obtain ⟨e1, e2⟩ := halfH (x := i + j) (by omega)
    have := cut_ge h (show (i + j) / 2 < l.length by omega) hA
    simp only [lt_dec hij, cond_true, e, e1, Option.bind_some, e2, idx_nat, get_some (show (i + j) / 2 < l.length by omega), e0, jn, slices_BinarySearchFunc_Res_f59_j2, decide_eq_false this, cond_false]
  · simp only [ge_dec (Nat.lt_irrefl _), cond_false, jn]
    by_cases hA : A.length < l.length
    · simp only [lt_dec hA, cond_true, idx_nat, get_some hA, Option.bind_some, e0, cut_at h hA]
    · rw [ge_dec hA, cut_end h hA]; rfl

/-! ### One more who waits -/
def standW (ws : List Wait) (w : Wait) : List Wait := if w.held = 0 then ws ++ [w] else (ws.filter fun x => !decide (x.held = 0)) ++ w :: ws.filter fun x => decide (x.held = 0)
theorem conv_split : ∀ {ws : List Wait}, (ws.Pairwise fun a b => wR a b = true) → ∃ A B, ws = A ++ B ∧ (∀ x ∈ A, x.held ≠ 0) ∧ ∀ x ∈ B, x.held = 0
  | [], _ => ⟨[], [], rfl, by simp, by simp⟩
  | w :: ws, h => by
    obtain ⟨h1, h2⟩ := List.pairwise_cons.1 h
    by_cases hw : w.held = 0
    · refine ⟨[], w :: ws, rfl, by simp, fun x hx => ?_⟩
      rcases List.mem_cons.1 hx with rfl | hx
      · exact hw
      · exact wR_iff.1 (h1 x hx) hw
    · obtain ⟨A, B, e, ha, hb⟩ := conv_split h2
      refine ⟨w :: A, B, by rw [e]; rfl, fun x hx => ?_, hb⟩
      rcases List.mem_cons.1 hx with rfl | hx
      · exact hw
      · exact ha x hx
theorem stand_split {A B : List Wait} {w : Wait} (ha : ∀ x ∈ A, x.held ≠ 0) (hb : ∀ x ∈ B, x.held = 0) (hw : w.held ≠ 0) : standW (A ++ B) w = A ++ w :: B := by
  unfold standW
  rw [if_neg hw, List.filter_append, List.filter_append]
  have f1 : (A.filter fun x => !decide (x.held = 0)) = A := List.filter_eq_self.2 fun x hx => by simp [ha x hx]
  have f2 : (B.filter fun x => !decide (x.held = 0)) = [] := List.filter_eq_nil_iff.2 fun x hx => by simp [hb x hx]
  have f3 : (A.filter fun x => decide (x.held = 0)) = [] := List.filter_eq_nil_iff.2 fun x hx => by simp [ha x hx]
  have f4 : (B.filter fun x => decide (x.held = 0)) = B := List.filter_eq_self.2 fun x hx => by simp [hb x hx]
  rw [f1, f2, f3, f4]; simp
theorem insL_end (ws : List Wait) (w : Wait) (h : ws.length ≤ 1000) : insL 24 ws (ws.length : Int) [w] = some (ws ++ [w]) := by
  have hc : Cut (fun _ : Wait => (-1 : Int)) ws ws none [] := ⟨by simp, fun _ _ => by decide, nofun, by simp⟩
  exact insL_cut hc w h (by omega)
theorem stands_eq (n : Nat) (hn : 1003 ≤ n) (w : Wait) (a c : Int) (b : Bool) (hs : List Hold) (ws : List Wait) (hl : ws.length ≤ 1000) (hwr : ws.Pairwise fun a b => wR a b = true) : locks_stands n w a b c hs ws = some (a, b, c, hs, standW ws w) := by
  unfold locks_stands
  simp only [locks_conversion, ibne, Option.bind_some, jn]
  by_cases hw : w.held = 0
  · rw [decide_eq_true hw]
    simp only [Bool.not_true, cond_false, locks_stands_j1, slices_Insert_Wait, insL_end ws w hl, Option.bind_some]
    unfold standW
    rw [if_pos hw]
  · rw [decide_eq_false hw]
    obtain ⟨A, B, rfl, ha, hb⟩ := conv_split hwr
    have h1 : slices_IndexFunc_Wait_f107 n (A ++ B) = some (if B = [] then -1 else (A.length : Int)) := by
      unfold slices_IndexFunc_Wait_f107
      show slices_IndexFunc_Wait_f107_l1 n n (A ++ B, ((A ++ B).length : Int), ((0 : Nat) : Int), ()) = _
      unfold slices_IndexFunc_Wait_f107_l1
      rw [run_loop (A ++ B) (fun i (_ : Unit) => (A ++ B, ((A ++ B).length : Int), (i : Int), ())) (fun i x _ => if decide (x.held = 0) then .inl (some (i : Int)) else .inr ()) (fun _ => some (-1)) ?_ ?_ n 0 () (Nat.zero_le _) (by omega)]
      · rw [List.drop_zero, runL_find0 (f := fun i => some (i : Int))]
        have hf : (A ++ B).findIdx? (fun x => decide (x.held = 0)) = if B = [] then none else some A.length := by
          rw [List.findIdx?_append]
          have : A.findIdx? (fun x => decide (x.held = 0)) = none := List.findIdx?_eq_none_iff.2 fun x hx => by simp [ha x hx]
          rw [this]
          cases B with
          | nil => simp
          | cons v B => simp [List.findIdx?_cons, hb v (List.mem_cons_self ..)]
        rw [hf]
        by_cases hB : B = []
        · simp [hB]
        · simp [hB]
      · intro r i s x hx hi
        simp only [lt_dec hi, cond_true, idx_nat, hx, Option.bind_some, locks_stands_1, locks_conversion, ibne, wrap_succ (show i < 4611686018427387904 by omega)]
        cases decide (x.held = 0) <;> rfl
      · intro r s
        simp only [ge_dec (Nat.lt_irrefl _), cond_false]
    have hc : Cut (fun x : Wait => if x.held = 0 then (1 : Int) else -1) (A ++ B) A none B := ⟨by simp, fun x hx => by simp [ha x hx], nofun, fun x hx => by simp [hb x hx]⟩
    have hins : insL 24 (A ++ B) (A.length : Int) [w] = some (A ++ w :: B) := insL_cut hc w hl (by omega)
    simp only [Bool.not_false, cond_true, h1, Option.bind_some, locks_stands_j2, locks_stands_j1, slices_Insert_Wait]
    rw [stand_split ha hb hw]
    by_cases hB : B = []
    · subst hB
      rw [if_pos rfl, decide_eq_false (by omega)]
      simp only [cond_false]
      have := insL_end (A ++ []) w hl
      rw [this]
      simp
    · rw [if_neg hB, decide_eq_true (by omega)]
      simp only [cond_true, hins, Option.bind_some]
end Go.Proofs.YtndehfninoimgaaGreat
