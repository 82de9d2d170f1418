/- Layer 11: the plain law PageParts. -/
import Derived.Test.YtjgcapbmhcmcfaaPlainLv
namespace Go.Proofs.Ytjgcapbmhcmcfaa
open Go.Bur
set_option linter.unusedSimpArgs false
set_option linter.unusedVariables false
set_option maxRecDepth 100000

/-! ### Whether rows and kids rise -/
def allFrom {α : Type} (p : Nat → α → Bool) : Nat → List α → Bool
  | _, [] => true
  | i, x :: t => p i x && allFrom p (i + 1) t
theorem runL_allFrom {α R : Type} {p : Nat → α → Bool} {v : Option R} {fin : Unit → Option R} : ∀ (l : List α) (i : Nat), runL (fun i x (_ : Unit) => if p i x then .inr () else .inl v) fin l i () = if allFrom p i l then fin () else v
  | [], _ => rfl
  | x :: t, i => by
    by_cases hp : p i x = true
    · simp only [runL, allFrom, hp, if_true, Bool.true_and]; exact runL_allFrom t (i + 1)
    · have hp : p i x = false := by simpa using hp
      simp [runL, allFrom, hp]
def upR (l : List Row) (i : Nat) (x : Row) : Bool := match prevK l i with | none => true | some k => ltK k x.key
def upK (l : List Kid) (i : Nat) (x : Kid) : Bool := (match prevL l i with | none => true | some k => ltK k x.least) && !(l.take i).any fun k => decide (k.page = x.page)
def risesC (c : Content) : Bool := allFrom (upR c.rows) 0 c.rows && allFrom (upK c.kids) 0 c.kids
theorem allFrom_one {α : Type} (p : Nat → α → Bool) (l : List α) (h : ∀ x, p 0 x = true) : allFrom p 1 (l.drop 1) = allFrom p 0 l := by
  cases l with
  | nil => rfl
  | cons x t => simp [allFrom, h]
theorem ge_lt {a b : Key} : decide (cmpK a b ≥ 0) = !ltK a b := by
  unfold ltK
  by_cases h : cmpK a b < 0
  · rw [decide_eq_true h, decide_eq_false (by omega)]; rfl
  · rw [decide_eq_false h, decide_eq_true (by omega)]; rfl
theorem prises2_eq (n : Nat) (hn : 1003 ≤ n) (c : Content) (hc : Fine c) : page_rises_l2 n n (c.kids, (c.kids.length : Int), 0, c, [], ()) = some (allFrom (upK c.kids) 0 c.kids) := by
  have hl := hc.kids
  show page_rises_l2 n n (c.kids, (c.kids.length : Int), ((0 : Nat) : Int), c, seen c.kids 0, ()) = _
  unfold page_rises_l2
  refine (run_loop c.kids (fun (i : Nat) (_ : Unit) => (c.kids, (c.kids.length : Int), (i : Int), c, seen c.kids i, ())) (fun i x _ => if upK c.kids i x then .inr () else .inl (some false)) (fun _ => some true) (fun r i q x hx hi => ?_) (fun r q => ?_) n 0 () (by omega) (by omega)).trans ?_
  · have hk := hc.page _ (List.mem_of_getElem? hx)
    have hq : (seen c.kids i).length ≤ 1000 := by simp [seen]; omega
    have h1 : mlook .i64 false (seen c.kids i) x.page = some (mget false (seen c.kids i) x.page) := by unfold mlook; rw [hk]
    have h2 : mput .i64 (seen c.kids i) x.page true = some ((x.page, true) :: seen c.kids i) := by unfold mput; rw [hk, Bool.true_and, show Nat.ble (seen c.kids i).length 1000000 = true from Nat.ble_eq_true_of_le (by omega)]
    simp only [lt_dec hi, cond_true, idx_nat, hx, Option.bind_some, h1, h2, jn, wrap_succ (show i < 4611686018427387904 by omega), ← seen_succ hx]
    unfold upK
    rw [mget_seen]
    cases i with
    | zero => simp [prevL, show decide (((0 : Nat) : Int) > 0) = false from rfl]
    | succ i =>
      have hi' : c.kids[i]? = some c.kids[i] := get_some (by omega)
      have h0 : decide (((i + 1 : Nat) : Int) > 0) = true := decide_eq_true (by omega)
      simp only [h0, cond_true, wrap_pred (show i < 4611686018427387904 by omega), idx_nat, hi', Option.bind_some, compare_eq n (by omega), prevL, Option.map_some, ge_lt]
      cases ltK c.kids[i].least x.least <;> cases (c.kids.take (i + 1)).any (fun k => decide (k.page = x.page)) <;> rfl
  · simp only [ge_dec (Nat.lt_irrefl _), cond_false]
  · rw [List.drop_zero, runL_allFrom]
    cases allFrom (upK c.kids) 0 c.kids <;> rfl
theorem prises_eq (n : Nat) (hn : 1003 ≤ n) (c : Content) (hc : Fine c) : page_rises n c = some (risesC c) := by
  have hl := hc.rows
  show page_rises_l1 n n (((1 : Nat) : Int), c, ()) = _
  have h2 := prises2_eq n hn c hc
  unfold page_rises_l1 risesC
  cases hr : c.rows with
  | nil =>
    obtain ⟨m, rfl⟩ : ∃ m, n = m + 1 := ⟨n - 1, by omega⟩
    simp only [loopF, hr, List.length_nil, show decide (((1 : Nat) : Int) < ((0 : Nat) : Int)) = false from by decide, cond_false, allFrom, Bool.true_and]
    exact h2
  | cons x0 t0 =>
    rw [← hr]
    refine (run_loopI c.rows (fun (i : Nat) (_ : Unit) => ((i : Int), c, ())) (fun i x _ => if upR c.rows i x then .inr () else .inl (some false)) (fun _ => some (allFrom (upK c.kids) 0 c.kids)) (fun i _ => 1 ≤ i) (fun i s x s' hx hi hs => by omega) (fun r i q x hx hi h1 => ?_) (fun r q hq => ?_) n 1 () (by rw [hr]; simp) (by omega) (Nat.le_refl 1)).trans ?_
    · obtain ⟨i, rfl⟩ : ∃ j, i = j + 1 := ⟨i - 1, by omega⟩
      have hi' : c.rows[i]? = some c.rows[i] := get_some (by omega)
      simp only [lt_dec hi, cond_true, wrap_pred (show i < 4611686018427387904 by omega), idx_nat, hx, hi', Option.bind_some, compare_eq n (by omega), ge_lt, upR, prevK, Option.map_some, wrap_succ (show i + 1 < 4611686018427387904 by omega)]
      cases ltK c.rows[i].key x.key <;> rfl
    · simp only [ge_dec (Nat.lt_irrefl _), cond_false]
      exact h2
    · rw [runL_allFrom, allFrom_one _ _ (fun x => rfl)]
      cases allFrom (upR c.rows) 0 c.rows <;> rfl
theorem rcompare_ge (n : Nat) (a b : Key) : ∃ v, ref05_Compare n a b = some v ∧ decide (v ≥ 0) = !ltK a b := by
  obtain ⟨v, h1, h2⟩ := rcompare_lt n a b
  refine ⟨v, h1, ?_⟩
  rw [← h2]
  by_cases h : v < 0
  · rw [decide_eq_true h, decide_eq_false (by omega)]; rfl
  · rw [decide_eq_false h, decide_eq_true (by omega)]; rfl
theorem rrises3_eq (n : Nat) (hn : 1003 ≤ n) (r2 : Int × Content × Unit → Option Bool) (c : Content) (hc : Fine c) (i : Nat) (x : Kid) (hx : c.kids[i]? = some x) : ref11_Rises_l3 n r2 n ((i : Int), 0, c, ()) = if (c.kids.take i).any (fun k => decide (k.page = x.page)) then some false else r2 (IntKind.wrap .i64 ((i : Int) + 1), c, ()) := by
  have hl := hc.kids
  have hi : i < c.kids.length := by
    rcases Nat.lt_or_ge i c.kids.length with h | h
    · exact h
    · rw [List.getElem?_eq_none h] at hx; cases hx
  show ref11_Rises_l3 n r2 n ((i : Int), ((0 : Nat) : Int), c, ()) = _
  have hlen : (c.kids.take i).length = i := by simp; omega
  unfold ref11_Rises_l3
  refine (run_loop (c.kids.take i) (fun (j : Nat) (_ : Unit) => ((i : Int), (j : Int), c, ())) (fun _ k _ => if decide (k.page = x.page) then .inl (some false) else .inr ()) (fun _ => r2 (IntKind.wrap .i64 ((i : Int) + 1), c, ())) (fun r j s y hy hj => ?_) (fun r s => ?_) n 0 () (by omega) (by omega)).trans ?_
  · rw [hlen] at hj
    have hy' : c.kids[j]? = some y := by rw [List.getElem?_take_of_lt hj] at hy; exact hy
    simp only [lt_dec hj, cond_true, idx_nat, hy', hx, Option.bind_some, wrap_succ (show j < 4611686018427387904 by omega), ibeq]
    by_cases h : y.page = x.page
    · rw [decide_eq_true h]; rfl
    · rw [decide_eq_false h]; rfl
  · rw [hlen]
    simp only [ge_dec (Nat.lt_irrefl _), cond_false]
  · rw [List.drop_zero, runL_any]
theorem rrises_eq (n : Nat) (hn : 1003 ≤ n) (c : Content) (hc : Fine c) : ref11_Rises n c = some (risesC c) := by
  have hl := hc.rows
  have hlk := hc.kids
  have h2 : ref11_Rises_l2 n n (((1 : Nat) : Int), c, ()) = some (allFrom (upK c.kids) 0 c.kids) := by
    unfold ref11_Rises_l2
    cases hr : c.kids with
    | nil =>
      obtain ⟨m, rfl⟩ : ∃ m, n = m + 1 := ⟨n - 1, by omega⟩
      simp only [loopF, hr, List.length_nil, show decide (((1 : Nat) : Int) < ((0 : Nat) : Int)) = false from by decide, cond_false, allFrom]
    | cons x0 t0 =>
      rw [← hr]
      refine (run_loopI c.kids (fun (i : Nat) (_ : Unit) => ((i : Int), c, ())) (fun i x _ => if upK c.kids i x then .inr () else .inl (some false)) (fun _ => some true) (fun i _ => 1 ≤ i) (fun i s x s' hx hi hs => by omega) (fun r i q x hx hi h1 => ?_) (fun r q hq => ?_) n 1 () (by rw [hr]; simp) (by omega) (Nat.le_refl 1)).trans ?_
      · obtain ⟨i, rfl⟩ : ∃ j, i = j + 1 := ⟨i - 1, by omega⟩
        have hi' : c.kids[i]? = some c.kids[i] := get_some (by omega)
        obtain ⟨v, e1, e2⟩ := rcompare_ge n c.kids[i].least x.least
        simp only [lt_dec hi, cond_true, wrap_pred (show i < 4611686018427387904 by omega), idx_nat, hx, hi', Option.bind_some, e1, e2, upK, prevL, Option.map_some, rrises3_eq n hn r c hc (i + 1) x hx, wrap_succ (show i + 1 < 4611686018427387904 by omega)]
        cases ltK c.kids[i].least x.least <;> cases (c.kids.take (i + 1)).any (fun k => decide (k.page = x.page)) <;> rfl
      · simp only [ge_dec (Nat.lt_irrefl _), cond_false]
      · rw [runL_allFrom, allFrom_one _ _ (fun x => by simp [upK, prevL])]
        cases allFrom (upK c.kids) 0 c.kids <;> rfl
  show ref11_Rises_l1 n n (((1 : Nat) : Int), c, ()) = _
  unfold ref11_Rises_l1 risesC
  cases hr : c.rows with
  | nil =>
    obtain ⟨m, rfl⟩ : ∃ m, n = m + 1 := ⟨n - 1, by omega⟩
    simp only [loopF, hr, List.length_nil, show decide (((1 : Nat) : Int) < ((0 : Nat) : Int)) = false from by decide, cond_false, allFrom, Bool.true_and]
    exact h2
  | cons x0 t0 =>
    rw [← hr]
    refine (run_loopI c.rows (fun (i : Nat) (_ : Unit) => ((i : Int), c, ())) (fun i x _ => if upR c.rows i x then .inr () else .inl (some false)) (fun _ => some (allFrom (upK c.kids) 0 c.kids)) (fun i _ => 1 ≤ i) (fun i s x s' hx hi hs => by omega) (fun r i q x hx hi h1 => ?_) (fun r q hq => ?_) n 1 () (by rw [hr]; simp) (by omega) (Nat.le_refl 1)).trans ?_
    · obtain ⟨i, rfl⟩ : ∃ j, i = j + 1 := ⟨i - 1, by omega⟩
      have hi' : c.rows[i]? = some c.rows[i] := get_some (by omega)
      obtain ⟨v, e1, e2⟩ := rcompare_ge n c.rows[i].key x.key
      simp only [lt_dec hi, cond_true, wrap_pred (show i < 4611686018427387904 by omega), idx_nat, hx, hi', Option.bind_some, e1, e2, upR, prevK, Option.map_some, wrap_succ (show i + 1 < 4611686018427387904 by omega)]
      cases ltK c.rows[i].key x.key <;> rfl
    · simp only [ge_dec (Nat.lt_irrefl _), cond_false]
      exact h2
    · rw [runL_allFrom, allFrom_one _ _ (fun x => rfl)]
      cases allFrom (upR c.rows) 0 c.rows <;> rfl

/-! ### Cut and put together, plain -/
def hd0 (k : Key) : List Kid → List Kid
  | [] => []
  | x :: t => ⟨k, x.page⟩ :: t
theorem hd0_len {k : Key} (l : List Kid) : (hd0 k l).length = l.length := by cases l <;> rfl
def stepC (rs : List Row) (ks : List Kid) : Key := match ks with
  | x :: _ => x.least
  | [] => match rs with
    | r :: _ => r.key
    | [] => key0
def bothC (a b : Content) (k : Key) : Content := ⟨a.kind, a.rows ++ b.rows, a.kids ++ hd0 k b.kids⟩
def cutA (c : Content) (m : Nat) : Content := ⟨c.kind, c.rows.take m, c.kids.take m⟩
def cutB (c : Content) (m : Nat) : Content := ⟨c.kind, c.rows.drop m, hd0 key0 (c.kids.drop m)⟩
def cutS (c : Content) (m : Nat) : Key := stepC (c.rows.drop m) (c.kids.drop m)
def stepT {α : Type} (m : Nat) (i : Nat) (x : α) (s : List α × List α) : Option (Content × Content × Key) ⊕ (List α × List α) := .inr (if i < m then (s.1 ++ [x], s.2) else (s.1, s.2 ++ [x]))
theorem cut_run {α : Type} (m : Nat) (fin : List α × List α → Option (Content × Content × Key)) : ∀ (t : List α) (i : Nat) (s : List α × List α), runL (stepT m) fin t i s = fin (s.1 ++ t.take (m - i), s.2 ++ t.drop (m - i))
  | [], i, s => by simp [runL]
  | x :: t, i, s => by
    simp only [runL, stepT]
    rw [cut_run m fin t (i + 1)]
    by_cases h : i < m
    · rw [if_pos h]
      obtain ⟨d, hd⟩ : ∃ d, m - i = d + 1 := ⟨m - i - 1, by omega⟩
      rw [hd, show m - (i + 1) = d from by omega]
      simp
    · rw [if_neg h, show m - i = 0 from by omega, show m - (i + 1) = 0 from by omega]
      simp
theorem dlt {i m : Nat} : decide ((i : Int) < (m : Int)) = decide (i < m) := by
  by_cases h : i < m
  · rw [decide_eq_true h, decide_eq_true (by omega)]
  · rw [decide_eq_false h, decide_eq_false (by omega)]
theorem rcut_eq (n : Nat) (hn : 1003 ≤ n) (c : Content) (hc : Fine c) (m : Nat) : ref11_Cut n c (m : Int) = some (cutA c m, cutB c m, cutS c m) := by
  have hlr := hc.rows
  have hlk := hc.kids
  have h3 : ∀ (A B : Content) (K : Key) (a b : List Row), a.length ≤ 1000 → b.length ≤ 1000 → ref11_Cut_l3 n n ((m : Int), 0, c, A, B, K, c.kind, c.kind, a, [], b, [], ()) = some (⟨c.kind, a, c.kids.take m⟩, ⟨c.kind, b, hd0 key0 (c.kids.drop m)⟩, stepC b (c.kids.drop m)) := by
    intro A B K a b ha hb
    show ref11_Cut_l3 n n ((m : Int), ((0 : Nat) : Int), c, A, B, K, c.kind, c.kind, a, [], b, [], ()) = _
    unfold ref11_Cut_l3
    refine (run_loopI c.kids (fun (i : Nat) (s : List Kid × List Kid) => ((m : Int), (i : Int), c, A, B, K, c.kind, c.kind, a, s.1, b, s.2, ())) (stepT m) (fun s => some (⟨c.kind, a, s.1⟩, ⟨c.kind, b, hd0 key0 s.2⟩, stepC b s.2)) (fun i s => s.1.length ≤ i ∧ s.2.length ≤ i) (fun i s x s' hx hi hs => ?_) (fun r i s x hx hi hs => ?_) (fun r s hs => ?_) n 0 ([], []) (by omega) (by omega) (by simp)).trans ?_
    · unfold stepT at hs
      injection hs with hs
      subst hs
      split <;> simp <;> omega
    · obtain ⟨h1, h2⟩ := hs
      have a1 : app 24 s.1 [x] = some (s.1 ++ [x]) := app_lt (by simp; omega) (by decide)
      have a2 : app 24 s.2 [x] = some (s.2 ++ [x]) := app_lt (by simp; omega) (by decide)
      simp only [lt_dec hi, cond_true, idx_nat, hx, Option.bind_some, jn, ref11_Cut_j4, dlt, a1, a2, wrap_succ (show i < 4611686018427387904 by omega), stepT]
      by_cases h : i < m
      · rw [decide_eq_true h, if_pos h]; rfl
      · rw [decide_eq_false h, if_neg h]; rfl
    · simp only [ge_dec (Nat.lt_irrefl _), cond_false, jn, ref11_Cut_j5, ref11_Cut_j6]
      have hidx : ∀ (x : Row) (t : List Row), idx (x :: t) 0 = some x := fun x t => idx_zero _
      have hidk : ∀ (x : Kid) (t : List Kid), idx (x :: t) 0 = some x := fun x t => idx_zero _
      have hput : ∀ (x y : Kid) (t : List Kid), put (x :: t) 0 y = some (y :: t) := fun x y t => put_ok (l := x :: t) (i := 0) (by simp)
      have hpos : ∀ {α : Type} (x : α) (t : List α), decide (((x :: t).length : Int) > 0) = true := fun x t => decide_eq_true (by rw [List.length_cons]; omega)
      have hneg : ∀ {α : Type}, decide ((([] : List α).length : Int) > 0) = false := fun {α} => decide_eq_false (by simp)
      cases b with
      | nil => cases hs2 : s.2 with
        | nil => simp only [hneg, cond_false, hd0, stepC]; rfl
        | cons y t => simp only [hneg, hpos, cond_false, cond_true, hidk, hput, Option.bind_some, hd0, stepC]; rfl
      | cons z u => cases hs2 : s.2 with
        | nil => simp only [hneg, hpos, cond_false, cond_true, hidx, Option.bind_some, hd0, stepC]
        | cons y t => simp only [hneg, hpos, cond_false, cond_true, hidk, hidx, hput, Option.bind_some, hd0, stepC]; rfl
    · rw [List.drop_zero, cut_run]
      simp
  show ref11_Cut_l1 n n ((m : Int), ((0 : Nat) : Int), c, (Content.mk 0 ([] : List Row) ([] : List Kid)), (Content.mk 0 ([] : List Row) ([] : List Kid)), (Key.mk 0 0), c.kind, c.kind, ([] : List Row), ([] : List Kid), ([] : List Row), ([] : List Kid), ()) = _
  unfold ref11_Cut_l1
  refine (run_loopI c.rows (fun (i : Nat) (s : List Row × List Row) => ((m : Int), (i : Int), c, (Content.mk 0 ([] : List Row) ([] : List Kid)), (Content.mk 0 ([] : List Row) ([] : List Kid)), (Key.mk 0 0), c.kind, c.kind, s.1, ([] : List Kid), s.2, ([] : List Kid), ())) (stepT m) (fun s => some (⟨c.kind, s.1, c.kids.take m⟩, ⟨c.kind, s.2, hd0 key0 (c.kids.drop m)⟩, stepC s.2 (c.kids.drop m))) (fun i s => s.1.length ≤ i ∧ s.2.length ≤ i) (fun i s x s' hx hi hs => ?_) (fun r i s x hx hi hs => ?_) (fun r s hs => ?_) n 0 ([], []) (by omega) (by omega) (by simp)).trans ?_
  · unfold stepT at hs
    injection hs with hs
    subst hs
    split <;> simp <;> omega
  · obtain ⟨h1, h2⟩ := hs
    have a1 : app 40 s.1 [x] = some (s.1 ++ [x]) := app_lt (by simp; omega) (by decide)
    have a2 : app 40 s.2 [x] = some (s.2 ++ [x]) := app_lt (by simp; omega) (by decide)
    simp only [lt_dec hi, cond_true, idx_nat, hx, Option.bind_some, jn, ref11_Cut_j2, dlt, a1, a2, wrap_succ (show i < 4611686018427387904 by omega), stepT]
    by_cases h : i < m
    · rw [decide_eq_true h, if_pos h]; rfl
    · rw [decide_eq_false h, if_neg h]; rfl
  · simp only [ge_dec (Nat.lt_irrefl _), cond_false]
    exact h3 _ _ _ s.1 s.2 (by omega) (by omega)
  · rw [List.drop_zero, cut_run]
    simp [cutA, cutB, cutS]
def setH (k : Key) (i : Nat) (x : Kid) : Kid := if i = 0 then ⟨k, x.page⟩ else x
theorem rboth_eq (n : Nat) (hn : 1003 ≤ n) (a b : Content) (ha : Fine a) (hb : Fine b) (k : Key) : ref11_Both n a b k = some (bothC a b k) := by
  have h1 := ha.rows
  have h2 := ha.kids
  have h3 := hb.rows
  have h4 := hb.kids
  have e1 : app 40 ([] : List Row) a.rows = some a.rows := by rw [app_lt (by simpa using (by omega : a.rows.length ≤ 1000000)) (by decide)]; rfl
  have e2 : app 40 a.rows b.rows = some (a.rows ++ b.rows) := app_lt (by omega) (by decide)
  have e3 : app 24 ([] : List Kid) a.kids = some a.kids := by rw [app_lt (by simpa using (by omega : a.kids.length ≤ 1000000)) (by decide)]; rfl
  unfold ref11_Both
  rw [e1, Option.bind_some, e2, Option.bind_some, e3, Option.bind_some]
  show ref11_Both_l1 n n (((0 : Nat) : Int), b, k, _, a.kind, a.rows ++ b.rows, a.kids, ()) = _
  unfold ref11_Both_l1
  refine (run_loopI b.kids (fun (i : Nat) (s : List Kid) => ((i : Int), b, k, (Content.mk 0 ([] : List Row) ([] : List Kid)), a.kind, a.rows ++ b.rows, s, ())) (fun i x s => .inr (s ++ [setH k i x])) (fun s => some ⟨a.kind, a.rows ++ b.rows, s⟩) (fun i s => s.length ≤ 1000 + i) (fun i s x s' hx hi hs => ?_) (fun r i s x hx hi hs => ?_) (fun r s hs => ?_) n 0 a.kids (by omega) (by omega) (by omega)).trans ?_
  · injection hs with hs
    subst hs
    simp; omega
  · have a1 : ∀ y : Kid, app 24 s [y] = some (s ++ [y]) := fun y => app_lt (by simp; omega) (by decide)
    simp only [lt_dec hi, cond_true, idx_nat, hx, Option.bind_some, jn, ref11_Both_j2, a1, wrap_succ (show i < 4611686018427387904 by omega), setH, beq0]
    by_cases h : i = 0
    · rw [decide_eq_true h, if_pos h]; rfl
    · rw [decide_eq_false h, if_neg h]; rfl
  · simp only [ge_dec (Nat.lt_irrefl _), cond_false]
  · have hsk : ∀ (t : List Kid) (i : Nat) (s : List Kid), 0 < i → runL (R := Content) (fun i x s => .inr (s ++ [setH k i x])) (fun s => some ⟨a.kind, a.rows ++ b.rows, s⟩) t i s = some ⟨a.kind, a.rows ++ b.rows, s ++ t⟩ := by
      intro t
      induction t with
      | nil => intro i s _; simp [runL]
      | cons x t ih =>
        intro i s hi
        simp only [runL]
        rw [ih (i + 1) _ (by omega), setH, if_neg (by omega)]
        simp
    rw [List.drop_zero]
    unfold bothC
    cases hbk : b.kids with
    | nil => simp [runL, hd0]
    | cons x t =>
      simp only [runL]
      rw [hsk t 1 _ (by omega)]
      simp [setH, hd0]

/-! ### What the program answers -/
def alikeP (a b : Content) : Bool := decide (a.kind = b.kind) && !decide (a.kind = 0)
theorem alike_of {a b : Content} (h : alikeP a b = true) : a.kind = b.kind ∧ a.kind ≠ 0 := by
  unfold alikeP at h
  simpa using h
theorem asked2_two (n : Nat) (hn : 1003 ≤ n) (a b : Content) (ha : Fine a) (hb : Fine b) : page_asked n 0 [a, b] = some (if checkP a && checkP b then 0 else 160) := by
  rw [asked_eq n hn [a, b] (by simp) (by intro c hc; simp at hc; rcases hc with rfl | rfl <;> assumption)]
  simp
theorem fine_both {a b : Content} {k : Key} (ha : Fine a) (hb : Fine b) (la : a.rows.length + a.kids.length ≤ 100) (lb : b.rows.length + b.kids.length ≤ 100) : Fine (bothC a b k) := by
  refine ⟨by simp [bothC]; omega, by simp [bothC, hd0_len]; omega, fun x hx => ?_⟩
  simp only [bothC, List.mem_append] at hx
  rcases hx with h | h
  · exact ha.page x h
  · cases hbk : b.kids with
    | nil => rw [hbk] at h; cases h
    | cons y t =>
      rw [hbk] at h
      simp only [hd0, List.mem_cons] at h
      rcases h with rfl | h
      · exact hb.page y (by simp [hbk])
      · exact hb.page x (by simp [hbk, h])
theorem fine_cutA {c : Content} {m : Nat} (hc : Fine c) : Fine (cutA c m) := ⟨by have := hc.rows; simp [cutA]; omega, by have := hc.kids; simp [cutA]; omega, fun x hx => hc.page x (List.mem_of_mem_take hx)⟩
theorem fine_hd0 {l : List Kid} {k : Key} (h : ∀ x ∈ l, keyIn .i64 x.page = true) : ∀ x ∈ hd0 k l, keyIn .i64 x.page = true := fun x hx => by
  cases l with
  | nil => cases hx
  | cons y t =>
    rcases List.mem_cons.1 hx with rfl | hx
    · exact h y (by simp)
    · exact h x (by simp [hx])
theorem fine_cutB {c : Content} {m : Nat} (hc : Fine c) : Fine (cutB c m) := ⟨by have := hc.rows; simp [cutB]; omega, by have := hc.kids; simp [cutB, hd0_len]; omega, fine_hd0 fun x hx => hc.page x (List.mem_of_mem_drop hx)⟩
theorem keys_hd0 {l : List Kid} {k : Key} (hk : KeyIn k) (h : ∀ x ∈ l, KeyIn x.least) : ∀ x ∈ hd0 k l, KeyIn x.least := fun x hx => by
  cases l with
  | nil => cases hx
  | cons y t =>
    rcases List.mem_cons.1 hx with rfl | hx
    · exact hk
    · exact h x (by simp [hx])
theorem key0In : KeyIn key0 := ⟨by decide, by decide⟩
theorem keys_both {a b : Content} {k : Key} (ha : Keys a) (hb : Keys b) (hk : KeyIn k) : Keys (bothC a b k) := by
  refine ⟨fun x hx => ?_, fun x hx => ?_⟩
  · rcases List.mem_append.1 hx with h | h
    · exact ha.rows x h
    · exact hb.rows x h
  · rcases List.mem_append.1 hx with h | h
    · exact ha.kids x h
    · exact keys_hd0 hk hb.kids x h
theorem keys_cutA {c : Content} {m : Nat} (hc : Keys c) : Keys (cutA c m) := ⟨fun x hx => hc.rows x (List.mem_of_mem_take hx), fun x hx => hc.kids x (List.mem_of_mem_take hx)⟩
theorem keys_cutB {c : Content} {m : Nat} (hc : Keys c) : Keys (cutB c m) := ⟨fun x hx => hc.rows x (List.mem_of_mem_drop hx), keys_hd0 key0In fun x hx => hc.kids x (List.mem_of_mem_drop hx)⟩
def splitP (c : Content) : Content × Content × Key × Int := if checkP c then (if fullP c then (cutA c 2, cutB c 2, cutS c 2, 0) else (cont0, cont0, key0, 2)) else (cont0, cont0, key0, 160)
theorem split_eq (n : Nat) (hn : 1003 ≤ n) (c : Content) (hc : Fine c) : page_Split n c = some (splitP c) := by
  unfold page_Split splitP
  rw [asked_eq n hn [c] (by simp) (by intro d hd; simp at hd; subst hd; exact hc)]
  simp only [List.all_cons, List.all_nil, Bool.and_true]
  by_cases hck : checkP c = true
  · simp only [hck, if_true, Option.bind_some, full_eq n c hc, show ((0 : Int) != 0) = false from by decide, cond_false]
    by_cases hf : fullP c = true
    · have hkind : c.kind = 1 ∨ c.kind = 2 := by
        unfold fullP at hf; simp at hf; exact hf.1
      have hsz : sizeP c = 4 := by unfold fullP at hf; simp at hf; exact hf.2
      simp only [hf, Bool.not_true, cond_false, if_true]
      rcases kinds_of hck (by rcases hkind with h | h <;> rw [h] <;> decide) with ⟨h1, h2, h3⟩ | ⟨h1, h2, h3, h4⟩
      · obtain ⟨kind, rows, kids⟩ := c
        simp only at h1 h2 h3
        subst h1 h2
        obtain ⟨r1, r2, r3, r4, rfl⟩ := len4 (show rows.length = 4 by simpa [sizeP] using hsz)
        simp only [show ((1 : Int) == 1) = true from by decide, cond_true]
        rw [show page_cut_Row n [r1, r2, r3, r4] 2 = some ([r1, r2], [r3, r4]) from cutR_eq n [r1, r2, r3, r4] (by simp) 2 (by simp)]
        rfl
      · obtain ⟨kind, rows, kids⟩ := c
        simp only at h1 h2 h3 h4
        subst h1 h2
        obtain ⟨r1, r2, r3, r4, rfl⟩ := len4 (show kids.length = 4 by simpa [sizeP] using hsz)
        simp only [show ((2 : Int) == 1) = false from by decide, cond_false]
        rw [show page_cut_Kid n [r1, r2, r3, r4] 2 = some ([r1, r2], [r3, r4]) from cutK_eq n [r1, r2, r3, r4] (by simp) 2 (by simp)]
        rfl
    · have hf : fullP c = false := by simpa using hf
      simp [hf, cont0, key0]
  · have hck : checkP c = false := by simpa using hck
    simp [hck, cont0, key0]
theorem joined_eq (n : Nat) (hn : 1003 ≤ n) (a b : Content) (k : Key) (ca : checkP a = true) (cb : checkP b = true) (hal : a.kind = b.kind ∧ a.kind ≠ 0) : page_joined n a b k = some (bothC a b k) ∧ ((a.kind = 1 ∧ a.kids = [] ∧ b.kids = []) ∨ (a.kind = 2 ∧ a.rows = [] ∧ b.rows = [] ∧ 2 ≤ a.kids.length ∧ 2 ≤ b.kids.length)) ∧ sizeP a ≤ 4 ∧ sizeP b ≤ 4 := by
  obtain ⟨ak, ar, aq⟩ := a
  obtain ⟨bk, br, bq⟩ := b
  rcases kinds_of ca hal.2 with ⟨h1, h2, h3⟩ | ⟨h1, h2, h3, h4⟩
  · rcases kinds_of cb (by rw [← hal.1]; exact hal.2) with ⟨g1, g2, g3⟩ | ⟨g1, _⟩
    · simp only at h1 h2 h3 g1 g2 g3
      subst h1 h2 g1 g2
      refine ⟨?_, .inl ⟨rfl, rfl, rfl⟩, by simpa [sizeP] using h3, by simpa [sizeP] using g3⟩
      unfold page_joined
      simp only [show ((1 : Int) == 1) = true from by decide, cond_true]
      rw [concatR_eq n hn ar br (by omega) (by omega)]
      rfl
    · rw [h1, g1] at hal; exact absurd hal.1 (by decide)
  · rcases kinds_of cb (by rw [← hal.1]; exact hal.2) with ⟨g1, _⟩ | ⟨g1, g2, g3, g4⟩
    · rw [h1, g1] at hal; exact absurd hal.1 (by decide)
    · simp only at h1 h2 h3 h4 g1 g2 g3 g4
      subst h1 h2 g1 g2
      refine ⟨?_, .inr ⟨rfl, rfl, rfl, h3, g3⟩, by simpa [sizeP] using h4, by simpa [sizeP] using g4⟩
      cases bq with
      | nil => simp at g3
      | cons w kt =>
        unfold page_joined
        simp only [show ((2 : Int) == 1) = false from by decide, cond_false]
        rw [cloneK_eq n (w :: kt) (by simp at g4 ⊢; omega)]
        simp only [Option.bind_some, first_eq]
        rw [concatK_eq n hn aq (⟨k, w.page⟩ :: kt) (by omega) (by simp at g4 ⊢; omega)]
        rfl
def joinP (a b : Content) (k : Key) : Content × Int := if checkP a && checkP b then (if alikeP a b then (if sizeP a + sizeP b > 4 then (cont0, 6) else if checkP (bothC a b k) then (bothC a b k, 0) else (cont0, 2)) else (cont0, 2)) else (cont0, 160)
theorem join_full (n : Nat) (hn : 1003 ≤ n) (a b : Content) (k : Key) (ha : Fine a) (hb : Fine b) : page_Join n a b k = some (joinP a b k) := by
  unfold page_Join joinP
  rw [asked2_two n hn a b ha hb]
  by_cases hall : (checkP a && checkP b) = true
  · simp only [hall, if_true, Option.bind_some, show ((0 : Int) != 0) = false from by decide, cond_false, alike_eq]
    simp only [Bool.and_eq_true] at hall
    by_cases hal : alikeP a b = true
    · have hal' := hal
      unfold alikeP at hal'
      obtain ⟨j1, j2, sa, sb⟩ := joined_eq n hn a b k hall.1 hall.2 (alike_of hal)
      simp only [hal', hal, Bool.not_true, cond_false, if_true, size_eq n a ha, size_eq n b hb, Option.bind_some, wrap_add (show sizeP a + sizeP b < 4611686018427387904 by omega)]
      by_cases h4 : sizeP a + sizeP b > 4
      · rw [decide_eq_true (by omega), if_pos h4]; rfl
      · rw [decide_eq_false (by omega), if_neg h4, cond_false, j1]
        simp only [Option.bind_some]
        have hf : Fine (bothC a b k) := fine_both ha hb (by unfold sizeP at sa; omega) (by unfold sizeP at sb; omega)
        by_cases hc : checkP (bothC a b k) = true
        · rw [if_pos hc, one_eq n hn _ hf hc]; rfl
        · rw [if_neg hc]
          have hc : checkP (bothC a b k) = false := by simpa using hc
          unfold page_one
          rw [comes_eq n hn [bothC a b k] (by simp) (by intro d hd; simp at hd; subst hd; exact hf)]
          simp only [List.all_cons, List.all_nil, hc, Bool.false_and]
          rfl
    · have hal : alikeP a b = false := by simpa using hal
      have hal' := hal
      unfold alikeP at hal'
      rw [hal', hal]; rfl
  · have hall : (checkP a && checkP b) = false := by simpa using hall
    rw [hall]; rfl
def no4 (e : Int) : Content × Content × Key × Int := (cont0, cont0, key0, e)
def levelQ (a b : Content) (k : Key) : Bool := !decide (sizeP (cutB (bothC a b k) (cutM a b)) = 0) && (risesC (bothC a b k) && (checkP (cutA (bothC a b k) (cutM a b)) && checkP (cutB (bothC a b k) (cutM a b))))
def levelP (a b : Content) (k : Key) : Content × Content × Key × Int := if checkP a && checkP b then (if alikeP a b && !decide (sizeP a = sizeP b) then (if levelQ a b k then (cutA (bothC a b k) (cutM a b), cutB (bothC a b k) (cutM a b), cutS (bothC a b k) (cutM a b), 0) else no4 2) else no4 2) else no4 160
theorem cutM_le {a b : Content} (h : sizeP a ≠ sizeP b) : cutM a b ≤ sizeP a + sizeP b := by
  unfold cutM
  split <;> omega
theorem level2_eq (n : Nat) (hn : 1003 ≤ n) (key : Key) (a b : Content) (k : Key) (j x y : Content) (hj : Fine j) (hx : Fine x) (hy : Fine y) : page_Level_j2 n (key, a, b, k, j, x, y, ()) = some (if risesC j && (checkP x && checkP y) then (x, y, key, 0) else no4 2) := by
  unfold page_Level_j2
  have hcm := comes_eq n hn [x, y] (by simp) (by intro c hc; simp at hc; rcases hc with rfl | rfl <;> assumption)
  simp only [hcm, Option.bind_some, jn, prises_eq n hn j hj, page_Level_1, List.all_cons, List.all_nil, Bool.and_true]
  cases checkP x <;> cases checkP y <;> cases risesC j <;> rfl
theorem level1_eq (n : Nat) (hn : 1003 ≤ n) (a b : Content) (k z : Key) (u v : Content) (ha : Fine a) (hb : Fine b) (ca : checkP a = true) (cb : checkP b = true) (hal : a.kind = b.kind ∧ a.kind ≠ 0) (hne : sizeP a ≠ sizeP b) : page_Level_j1 n ((cutM a b : Nat), a, b, k, u, v, z, ()) = some (if levelQ a b k then (cutA (bothC a b k) (cutM a b), cutB (bothC a b k) (cutM a b), cutS (bothC a b k) (cutM a b), 0) else no4 2) := by
  obtain ⟨j1, j2, sa, sb⟩ := joined_eq n hn a b k ca cb hal
  have hm := cutM_le hne
  have hf : Fine (bothC a b k) := fine_both ha hb (by unfold sizeP at sa; omega) (by unfold sizeP at sb; omega)
  have fa := fine_cutA (m := cutM a b) hf
  have fb := fine_cutB (m := cutM a b) hf
  unfold levelQ
  generalize hM : cutM a b = M at *
  unfold page_Level_j1
  dsimp only
  rw [j1]
  simp only [Option.bind_some, jn]
  rcases j2 with ⟨h1, h2, h3⟩ | ⟨h1, h2, h3, h4, h5⟩
  · have hsz : sizeP a + sizeP b = (bothC a b k).rows.length := by simp [sizeP, h2, h3, bothC]
    have hks : (bothC a b k).kids = [] := by simp [bothC, h2, h3, hd0]
    have hkd : (bothC a b k).kind = 1 := h1
    simp only [h1, show ((1 : Int) == 1) = true from by decide, cond_true, cutR_eq n _ hf.rows M (by omega), Option.bind_some, page_leaf]
    have eA : cutA (bothC a b k) M = ⟨1, (bothC a b k).rows.take M, []⟩ := by unfold cutA; rw [hks, hkd]; simp
    have eB : cutB (bothC a b k) M = ⟨1, (bothC a b k).rows.drop M, []⟩ := by unfold cutB; rw [hks, hkd]; simp [hd0]
    have eS : cutS (bothC a b k) M = stepC ((bothC a b k).rows.drop M) [] := by unfold cutS; rw [hks]; simp
    rw [eA] at fa
    rw [eB] at fb
    rw [eA, eB, eS]
    cases hd : (bothC a b k).rows.drop M with
    | nil => rfl
    | cons r t =>
      have hz : (((r :: t).length : Int) == 0) = false := by simp; omega
      rw [hd] at fb
      simp only [hz, cond_false, show idx (r :: t) 0 = some r from idx_zero _, Option.bind_some]
      rw [level2_eq n hn _ _ _ _ _ _ _ hf fa fb]
      have hnz : decide (sizeP ⟨1, r :: t, []⟩ = 0) = false := decide_eq_false (by simp [sizeP])
      rw [hnz]
      rfl
  · have hks : (bothC a b k).rows = [] := by simp [bothC, h2, h3]
    have hkd : (bothC a b k).kind = 2 := h1
    have hsz : sizeP a + sizeP b = (bothC a b k).kids.length := by simp [sizeP, h2, h3, bothC, hd0_len]
    have hlt : M < (bothC a b k).kids.length := by
      rw [← hsz, ← hM]
      unfold cutM sizeP
      rw [h2, h3]
      simp only [List.length_nil, Nat.zero_add]
      split <;> omega
    simp only [h1, show ((2 : Int) == 1) = false from by decide, cond_false, cutK_eq n _ hf.kids M (by omega), Option.bind_some, page_inner]
    have eA : cutA (bothC a b k) M = ⟨2, [], (bothC a b k).kids.take M⟩ := by unfold cutA; rw [hks, hkd]; simp
    have eB : cutB (bothC a b k) M = ⟨2, [], hd0 key0 ((bothC a b k).kids.drop M)⟩ := by unfold cutB; rw [hks, hkd]; simp
    have eS : cutS (bothC a b k) M = stepC [] ((bothC a b k).kids.drop M) := by unfold cutS; rw [hks]; simp
    rw [eA] at fa
    rw [eB] at fb
    rw [eA, eB, eS]
    cases hd : (bothC a b k).kids.drop M with
    | nil => have := congrArg List.length hd; rw [List.length_drop] at this; simp at this; omega
    | cons r t =>
      rw [hd] at fb
      simp only [first_eq, Option.bind_some]
      refine (level2_eq n hn _ _ _ _ _ _ _ hf fa fb).trans ?_
      have hnz : decide (sizeP ⟨2, [], hd0 key0 (r :: t)⟩ = 0) = false := decide_eq_false (by simp [sizeP, hd0])
      rw [hnz]
      rfl
theorem level_full (n : Nat) (hn : 1003 ≤ n) (a b : Content) (k : Key) (ha : Fine a) (hb : Fine b) : page_Level n a b k = some (levelP a b k) := by
  unfold page_Level levelP
  rw [asked2_two n hn a b ha hb]
  by_cases hall : (checkP a && checkP b) = true
  · simp only [hall, if_true, Option.bind_some, show ((0 : Int) != 0) = false from by decide, cond_false, alike_eq, jn]
    simp only [Bool.and_eq_true] at hall
    by_cases hal : alikeP a b = true
    · have hal' := hal
      unfold alikeP at hal'
      simp only [hal', hal, Bool.not_true, cond_false, Bool.true_and, size_eq n a ha, size_eq n b hb, Option.bind_some]
      rw [show (((sizeP a : Nat) : Int) == ((sizeP b : Nat) : Int)) = decide (sizeP a = sizeP b) from ieq4]
      by_cases hs : sizeP a = sizeP b
      · rw [decide_eq_true hs]; rfl
      · rw [decide_eq_false hs]
        obtain ⟨_, _, sa, sb⟩ := joined_eq n hn a b k hall.1 hall.2 (alike_of hal)
        simp only [cond_false, cmpEq (a := 0) (b := 0), Bool.not_false, if_true]
        have h1 := level1_eq n hn a b k key0 cont0 cont0 ha hb hall.1 hall.2 (alike_of hal) hs
        by_cases h : sizeP a > sizeP b
        · rw [decide_eq_true h, cond_true, ← h1, wrap_in (by omega)]
          unfold cutM
          rw [if_pos h]
          congr 2; omega
        · rw [decide_eq_false h, cond_false, ← h1, wrap_in (by omega)]
          unfold cutM
          rw [if_neg h]
          congr 2
    · have hal : alikeP a b = false := by simpa using hal
      have hal' := hal
      unfold alikeP at hal'
      rw [hal', hal]; rfl
  · have hall : (checkP a && checkP b) = false := by simpa using hall
    rw [hall]; rfl
theorem rsize_eq (n : Nat) (c : Content) (hc : Fine c) : ref11_Size n c = some (sizeP c : Int) := size_eq n c hc
theorem rlevel_eq (n : Nat) (hn : 1003 ≤ n) (a b : Content) (k : Key) (ha : Fine a) (hb : Fine b) (la : sizeP a ≤ 100) (lb : sizeP b ≤ 100) (ka : Keys a) (kb : Keys b) (hk : KeyIn k) : ref11_Level n a b k = some (if alikeP a b && !decide (sizeP a = sizeP b) then (if levelQ a b k then (cutA (bothC a b k) (cutM a b), cutB (bothC a b k) (cutM a b), cutS (bothC a b k) (cutM a b), true) else (cont0, cont0, key0, false)) else (cont0, cont0, key0, false)) := by
  have hf : Fine (bothC a b k) := fine_both ha hb (by unfold sizeP at la; omega) (by unfold sizeP at lb; omega)
  have kf := keys_both ka kb hk
  have hj : ∀ (u v : Content) (z : Key), ref11_Level_j1 n ((cutM a b : Nat), a, b, k, u, v, z, ()) = some (if levelQ a b k then (cutA (bothC a b k) (cutM a b), cutB (bothC a b k) (cutM a b), cutS (bothC a b k) (cutM a b), true) else (cont0, cont0, key0, false)) := by
    intro u v z
    unfold ref11_Level_j1 levelQ
    simp only [rboth_eq n hn a b ha hb k, Option.bind_some, rcut_eq n hn _ hf, rsize_eq n _ (fine_cutB hf), jn, rrises_eq n hn _ hf, right_eq n hn _ (fine_cutA hf) (keys_cutA kf), right_eq n hn _ (fine_cutB hf) (keys_cutB kf), beq0]
    cases decide (sizeP (cutB (bothC a b k) (cutM a b)) = 0) <;> cases risesC (bothC a b k) <;> cases checkP (cutA (bothC a b k) (cutM a b)) <;> cases checkP (cutB (bothC a b k) (cutM a b)) <;> rfl
  unfold ref11_Level
  have h3 : (a.kind != b.kind) = !decide (a.kind = b.kind) := by rw [bne, ibeq]
  simp only [jn, rsize_eq n a ha, rsize_eq n b hb, Option.bind_some, h3, ibeq a.kind, cmpEq (a := 0) (b := 0)]
  rw [show (((sizeP a : Nat) : Int) == ((sizeP b : Nat) : Int)) = decide (sizeP a = sizeP b) from ieq4]
  have hgo : cond (decide (sizeP a > sizeP b))
            (ref11_Level_j1 n ((IntKind.wrap .i64 ((sizeP a : Nat) - 1)), a, b, k, (Content.mk 0 ([] : List Row) ([] : List Kid)), (Content.mk 0 ([] : List Row) ([] : List Kid)), (Key.mk 0 0), ()))
            (ref11_Level_j1 n ((IntKind.wrap .i64 ((sizeP a : Nat) + 1)), a, b, k, (Content.mk 0 ([] : List Row) ([] : List Kid)), (Content.mk 0 ([] : List Row) ([] : List Kid)), (Key.mk 0 0), ())) = some (if levelQ a b k then (cutA (bothC a b k) (cutM a b), cutB (bothC a b k) (cutM a b), cutS (bothC a b k) (cutM a b), true) else (cont0, cont0, key0, false)) := by
    have h1 := hj cont0 cont0 key0
    by_cases h : sizeP a > sizeP b
    · rw [decide_eq_true h, cond_true, ← h1, wrap_in (by omega)]
      unfold cutM
      rw [if_pos h]
      congr 2; omega
    · rw [decide_eq_false h, cond_false, ← h1, wrap_in (by omega)]
      unfold cutM
      rw [if_neg h]
      congr 2
  rw [hgo]
  unfold alikeP
  cases decide (a.kind = b.kind) <;> cases decide (a.kind = 0) <;> cases decide (sizeP a = sizeP b) <;> rfl
theorem fullR_eq (n : Nat) (c : Content) (hc : Fine c) (hck : checkP c = true) : ref11_Full n c = some (fullP c) := by
  unfold ref11_Full
  have h4 : (((sizeP c : Nat) : Int) == 4) = decide (sizeP c = 4) := ieq4 (m := 4)
  have hk0 : (c.kind != 0) = !decide (c.kind = 0) := by rw [bne, ibeq]
  simp only [jn, rsize_eq n c hc, Option.bind_some, h4, hk0]
  unfold fullP
  by_cases e0 : c.kind = 0
  · simp [e0]
  · rcases kinds_of hck e0 with ⟨h, _⟩ | ⟨h, _⟩ <;> simp [h]
theorem key_self (k : Key) : Key.eqb k k = true := by rw [key_eqb, decide_eq_true rfl]
theorem beq_self' (x : Int) : (x == x) = true := by simp
theorem bne_self' (x : Int) : (x != x) = false := by simp
/-- The part behind the split. -/
theorem parts_j2 (n : Nat) (hn : 1003 ≤ n) (a b : Content) (k : Key) (ha : Fine a) (hb : Fine b) (ca : checkP a = true) (cb : checkP b = true) (la : sizeP a ≤ 100) (lb : sizeP b ≤ 100) (ka : Keys a) (kb : Keys b) (hk : KeyIn k) : law11_PageParts_j2 n ((levelP a b k).2.2.2, a, b, k, (levelP a b k).1, (levelP a b k).2.1, (levelP a b k).2.2.1, ()) = some true := by
  have hf : Fine (bothC a b k) := fine_both ha hb (by unfold sizeP at la; omega) (by unfold sizeP at lb; omega)
  have h0 := none_eq n hn [cont0, cont0] (by simp) (by simp)
  unfold law11_PageParts_j2 levelP
  rw [ca, cb]
  simp only [rlevel_eq n hn a b k ha hb la lb ka kb hk, Option.bind_some, Bool.and_true, if_true, jn]
  cases (alikeP a b && !decide (sizeP a = sizeP b)) with
  | false =>
    simp only [no4, Bool.false_eq_true, if_false, Bool.not_false, cond_true, h0, Option.bind_some, show Key.eqb key0 (Key.mk 0 0) = true from rfl, beq_self']
  | true =>
    cases levelQ a b k with
    | false => simp only [no4, Bool.false_eq_true, if_false, if_true, Bool.not_false, cond_true, h0, Option.bind_some, show Key.eqb key0 (Key.mk 0 0) = true from rfl, beq_self']
    | true => simp only [if_true, Bool.not_true, cond_false, beq_self', cond_true, rsame_refl n hn _ (fine_cutA hf), rsame_refl n hn _ (fine_cutB hf), Option.bind_some, key_self]
theorem parts_j1 (n : Nat) (hn : 1003 ≤ n) (a b : Content) (k : Key) (ha : Fine a) (hb : Fine b) (ca : checkP a = true) (la : sizeP a ≤ 100) (lb : sizeP b ≤ 100) (ka : Keys a) (kb : Keys b) (hk : KeyIn k) : law11_PageParts_j1 n ((joinP a b k).2, (levelP a b k).2.2.2, a, b, k, (joinP a b k).1, (levelP a b k).1, (levelP a b k).2.1, (levelP a b k).2.2.1, ()) = some true := by
  have hf : Fine (bothC a b k) := fine_both ha hb (by unfold sizeP at la; omega) (by unfold sizeP at lb; omega)
  unfold law11_PageParts_j1
  simp only [right_eq n hn b hb kb, Option.bind_some]
  by_cases cb : checkP b = true
  · have h2 := parts_j2 n hn a b k ha hb ca cb la lb ka kb hk
    have h0 := none_eq n hn [cont0] (by simp) (by simp)
    have h3 : (a.kind != b.kind) = !decide (a.kind = b.kind) := by rw [bne, ibeq]
    have hsz : sizeP (bothC a b k) = sizeP a + sizeP b := by simp [sizeP, bothC, hd0_len]; omega
    have h4 : decide (((sizeP (bothC a b k) : Nat) : Int) > 4) = decide (sizeP a + sizeP b > 4) := by
      rw [hsz]
      by_cases h : sizeP a + sizeP b > 4
      · rw [decide_eq_true h, decide_eq_true (by omega)]
      · rw [decide_eq_false h, decide_eq_false (by omega)]
    generalize levelP a b k = L at *
    unfold joinP
    rw [ca, cb]
    simp only [Bool.not_true, cond_false, rboth_eq n hn a b ha hb k, Option.bind_some, jn, law11_PageParts_j3, law11_PageParts_j4, rsize_eq n _ hf, right_eq n hn _ hf (keys_both ka kb hk), h3, ibeq a.kind, h4, Bool.and_true, if_true]
    unfold alikeP
    cases decide (a.kind = b.kind) with
    | false => simp only [Bool.not_false, cond_true, Bool.false_and, Bool.false_eq_true, if_false, h0, Option.bind_some, Bool.not_true, cond_false, bne_self', h2]
    | true =>
      cases decide (a.kind = 0) with
      | true => simp only [Bool.not_true, cond_true, cond_false, Bool.and_false, Bool.false_eq_true, if_false, h0, Option.bind_some, bne_self', h2]
      | false =>
        by_cases hs : sizeP a + sizeP b > 4
        · simp only [Bool.not_true, Bool.not_false, cond_true, cond_false, Bool.and_true, if_true, if_pos hs, decide_eq_true hs, h0, Option.bind_some, bne_self', h2]
        · cases hc : checkP (bothC a b k) with
          | false => simp only [Bool.not_true, Bool.not_false, cond_true, cond_false, Bool.and_true, if_true, if_neg hs, decide_eq_false hs, Bool.false_eq_true, if_false, h0, Option.bind_some, bne_self', h2]
          | true => simp only [Bool.not_true, Bool.not_false, cond_true, cond_false, Bool.and_true, if_true, if_neg hs, decide_eq_false hs, Option.bind_some, bne_self', rsame_refl n hn _ hf, h2]
  · have cb : checkP b = false := by simpa using cb
    have h0 := none_eq n hn [cont0, cont0, cont0] (by simp) (by simp)
    unfold joinP levelP
    rw [ca, cb]
    simp only [Bool.not_false, cond_true, Bool.and_false, Bool.false_eq_true, if_false, no4, h0, Option.bind_some, jn, show Key.eqb key0 (Key.mk 0 0) = true from rfl, beq_self']
theorem plainPageParts (a b : Content) (k : Key) (h1 : okT tab 9 (.st 3) a) (h2 : okT tab 9 (.st 3) b) (h3 : okT tab 9 (.st 0) k) : ∃ n, law11_PageParts n a b k = some true := by
  refine ⟨2000, ?_⟩
  have hn : 1003 ≤ 2000 := by decide
  unfold law11_PageParts
  rw [wakes]
  simp only [Option.bind_some, Bool.not_true, cond_false]
  rw [over_eq 2000 hn [a, b] (by simp)]
  simp only [List.any_cons, List.any_nil, Bool.or_false, Option.bind_some]
  cases ho : (overC a || overC b) with
  | true => rfl
  | false =>
    simp only [Bool.or_eq_false_iff] at ho
    have ha := fine_of h1 ho.1
    have hb := fine_of h2 ho.2
    have ka := keys_of h1
    have kb := keys_of h2
    have la : sizeP a ≤ 100 := by
      have := ho.1
      unfold overC at this
      simp only [Bool.or_eq_false_iff, decide_eq_false_iff_not] at this
      unfold sizeP; omega
    have lb : sizeP b ≤ 100 := by
      have := ho.2
      unfold overC at this
      simp only [Bool.or_eq_false_iff, decide_eq_false_iff_not] at this
      unfold sizeP; omega
    have hk : KeyIn k := by
      obtain ⟨q1, q2⟩ := h3.2.1
      have q2 : k.id ≤ 65535 := q2
      exact ⟨q1, by omega⟩
    simp only [cond_false, split_eq 2000 hn a ha, join_full 2000 hn a b k ha hb, level_full 2000 hn a b k ha hb, right_eq 2000 hn a ha ka, Option.bind_some]
    by_cases ca : checkP a = true
    · have hj := parts_j1 2000 hn a b k ha hb ca la lb ka kb hk
      have h0 := none_eq 2000 hn [cont0, cont0] (by simp) (by simp)
      generalize joinP a b k = J at *
      generalize levelP a b k = L at *
      unfold splitP
      rw [ca]
      simp only [Bool.not_true, cond_false, fullR_eq 2000 a ha ca, Option.bind_some, jn, if_true]
      cases fullP a with
      | false => simp only [Bool.not_false, cond_true, cond_false, Bool.false_eq_true, if_false, h0, Option.bind_some, Bool.not_true, bne_self', show Key.eqb key0 (Key.mk 0 0) = true from rfl, hj]
      | true => simp only [Bool.not_true, cond_true, cond_false, if_true, show ref11_Cut 2000 a 2 = some (cutA a 2, cutB a 2, cutS a 2) from rcut_eq 2000 hn a ha 2, Option.bind_some, bne_self', rsame_refl 2000 hn _ (fine_cutA ha), rsame_refl 2000 hn _ (fine_cutB ha), key_self, hj]
    · have ca : checkP a = false := by simpa using ca
      have h0 := none_eq 2000 hn [cont0, cont0, cont0, cont0, cont0] (by simp) (by simp)
      unfold splitP joinP levelP
      rw [ca]
      simp only [Bool.not_false, cond_true, Bool.false_and, Bool.false_eq_true, if_false, no4, h0, Option.bind_some, jn, show Key.eqb key0 (Key.mk 0 0) = true from rfl, beq_self']
end Go.Proofs.Ytjgcapbmhcmcfaa
