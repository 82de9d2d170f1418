/- Layer 11 (page), plain: what its common functions compute. -/
import Derived.Test.YtjgcapbmhcmcfaaF3
import Derived.Test.YtjgcapbmhcmcfaaLst3
import Derived.Test.YtjgcapbmhcmcfaaRw
namespace Go.Proofs.Ytjgcapbmhcmcfaa
open Go.Bur
set_option linter.unusedSimpArgs false
set_option linter.unusedVariables false
set_option maxRecDepth 100000

/-! ### Keys -/
def cmpI (a b : Int) : Int := if a < b then -1 else if a > b then 1 else 0
def cmpK (a b : Key) : Int := if cmpI a.table b.table ≠ 0 then cmpI a.table b.table else cmpI a.id b.id
theorem compare_int (n : Nat) (a b : Int) : cmp_Compare_int n a b = some (cmpI a b) := by
  unfold cmp_Compare_int cmp_isNaN_int cmpI
  by_cases h1 : a < b
  · simp [h1]
  · by_cases h2 : a > b
    · simp [h1, h2]
    · simp [h1, h2]
theorem compare_u16 (n : Nat) (a b : Int) : cmp_Compare_uint16 n a b = some (cmpI a b) := by
  unfold cmp_Compare_uint16 cmp_isNaN_uint16 cmpI
  by_cases h1 : a < b
  · simp [h1]
  · by_cases h2 : a > b
    · simp [h1, h2]
    · simp [h1, h2]
theorem or2 (n : Nat) (hn : 3 ≤ n) (a b : Int) : cmp_Or_int n [a, b] = some (if a ≠ 0 then a else b) := by
  obtain ⟨n, rfl⟩ : ∃ m, n = m + 3 := ⟨n - 3, by omega⟩
  unfold cmp_Or_int cmp_Or_int_l1
  by_cases ha : a = 0
  · by_cases hb : b = 0
    · subst ha hb; rfl
    · subst ha
      have : (b != 0) = true := by simpa using hb
      simp [loopF, idx, IntKind.wrap_i64, this]
  · have : (a != 0) = true := by simpa using ha
    simp [loopF, idx, this, ha]
theorem compare_eq (n : Nat) (hn : 3 ≤ n) (a b : Key) : row_Compare n a b = some (cmpK a b) := by
  unfold row_Compare
  rw [compare_int, compare_u16]
  simp only [Option.bind_some]
  rw [or2 n hn]
  rfl
def ltK (a b : Key) : Bool := decide (cmpK a b < 0)
theorem ltK_iff {a b : Key} : ltK a b = true ↔ a.table < b.table ∨ (a.table = b.table ∧ a.id < b.id) := by
  unfold ltK cmpK cmpI
  rw [decide_eq_true_iff]
  repeat' split
  all_goals omega

/-! ### What may be in a page -/
def okTab (t : Int) : Bool := decide (t ≥ 0) && decide (t < 3)
theorem table_eq (n : Nat) (t : Int) : codec_table n t = some (okTab t) := by
  unfold codec_table okTab jn
  cases decide (t ≥ 0) <;> rfl
def okRow (r : Row) : Bool := okTab r.key.table && !decide ((r.note.size : Int) > 8)
theorem checkRow_eq (n : Nat) (r : Row) : codec_CheckRow n r = some (if okRow r then 0 else 151) := by
  unfold codec_CheckRow okRow
  rw [table_eq]
  simp only [Option.bind_some, jn]
  cases okTab r.key.table <;> cases decide ((r.note.size : Int) > 8) <;> rfl
theorem leaf2_eq (n : Nat) (i : Int) (r : Row) : codec_leaf_2 n i r = some (okRow r) := by
  unfold codec_leaf_2
  rw [checkRow_eq]
  cases okRow r <;> rfl
/-- The rows from one on, behind the key p. -/
def risesR : Option Key → List Row → Bool
  | _, [] => true
  | p, r :: t => okRow r && (match p with | none => true | some k => ltK k r.key) && risesR (some r.key) t
def prevK (l : List Row) (i : Nat) : Option Key := match i with
  | 0 => none
  | j + 1 => (l[j]?).map (·.key)
theorem rises_run (l : List Row) (hl : l.length ≤ 1000) : ∀ (t : List Row) (i : Nat), l.drop i = t → i ≤ l.length →
    runL (R := Bool) (fun (i : Nat) (r : Row) (b : Bool) => if b && okRow r && (match prevK l i with | none => true | some k => ltK k r.key) then .inr true else .inl (some false)) some t i true = some (risesR (prevK l i) t)
  | [], i, h, hi => rfl
  | r :: t, i, h, hi => by
    have hr : l[i]? = some r := by
      have := congrArg (fun x => x[0]?) h
      simpa using this
    have ht : l.drop (i + 1) = t := by rw [← List.drop_drop, h]; rfl
    have hlt : i < l.length := by
      rcases Nat.lt_or_ge i l.length with h1 | h1
      · exact h1
      · rw [List.drop_eq_nil_of_le h1] at h; cases h
    have ih := rises_run l hl t (i + 1) ht hlt
    have hp : prevK l (i + 1) = some r.key := by simp [prevK, hr]
    simp only [runL, risesR, Bool.true_and]
    rw [hp] at ih
    cases hk : (okRow r && match prevK l i with | none => true | some k => ltK k r.key) with
    | true => simp only [if_true, Bool.true_and]; exact ih
    | false => rfl
theorem rises_eq (n : Nat) (l : List Row) (hl : l.length ≤ 1000) (hn : 1003 ≤ n) : codec_rises_Row_f76_f77 n l 4 = some (decide (l.length ≤ 4) && risesR none l) := by
  show codec_rises_Row_f76_f77_l2 n (codec_rises_Row_f76_f77_j1 n) n (l, decide ((l.length : Int) ≤ 4), l, (l.length : Int), ((0 : Nat) : Int), ()) = _
  unfold codec_rises_Row_f76_f77_l2
  refine (run_loop (R := Bool) l (fun (i : Nat) (b : Bool) => (l, b, l, (l.length : Int), (i : Int), ()))
    (fun (i : Nat) (r : Row) (b : Bool) => if b && okRow r && (match prevK l i with | none => true | some k => ltK k r.key) then .inr true else .inl (some false)) some (fun r i b x hx hi => ?_) (fun r b => ?_) n 0 _ (by omega) (by omega)).trans ?_
  · simp only [lt_dec hi, cond_true, idx_nat, hx, Option.bind_some, jn, leaf2_eq, codec_leaf_1, codec_rises_Row_f76_f77_j1]
    cases b with
    | false => rfl
    | true =>
      cases ho : okRow x with
      | false => simp [ho]
      | true =>
        cases i with
        | zero => simp [ho, prevK, wrap_one]
        | succ i =>
          have hi' : l[i]? = some l[i] := get_some (by omega)
          have h0 : (((i + 1 : Nat) : Int) == 0) = false := by simp; omega
          simp only [cond_true, h0, cond_false, wrap_pred (show i < 4611686018427387904 by omega), idx_nat, hi', Option.bind_some, compare_eq n (by omega), prevK, Option.map_some, ho, Bool.true_and, wrap_succ (show i + 1 < 4611686018427387904 by omega)]
          show (cond (!ltK _ _) _ _ : Option Bool) = _
          cases hk : ltK l[i].key x.key <;> simp [hk, ltK] at * <;> simp_all [ltK]
  · simp only [ge_dec (Nat.lt_irrefl _), cond_false, codec_rises_Row_f76_f77_j1]
  · rw [List.drop_zero]
    by_cases h4 : l.length ≤ 4
    · rw [decide_eq_true (by omega : (l.length : Int) ≤ 4), decide_eq_true h4, Bool.true_and]
      exact rises_run l hl l 0 rfl (by omega)
    · rw [decide_eq_false (by omega : ¬ (l.length : Int) ≤ 4), decide_eq_false h4]
      cases l with
      | nil => simp at h4
      | cons x t => rfl

/-! ### Inner pages -/
def key0 : Key := ⟨0, 0⟩
def okKid (p : Option Key) (q : List (Int × Bool)) (k : Kid) : Bool :=
  !mget false q k.page && decide (k.page > 0) && decide (k.page < 64) && okTab k.least.table && (p.isSome || Key.eqb k.least key0)
def goK (p : Option Key) (q : List (Int × Bool)) (k : Kid) : Bool := okKid p q k && (match p with | none => true | some z => ltK z k.least)
def risesK : Option Key → List (Int × Bool) → List Kid → Bool
  | _, _, [] => true
  | p, q, k :: t => goK p q k && risesK (some k.least) ((k.page, true) :: q) t
def prevL (l : List Kid) (i : Nat) : Option Key := match i with
  | 0 => none
  | j + 1 => (l[j]?).map (·.least)
theorem inner2_eq (n : Nat) (i : Nat) (k : Kid) (q : List (Int × Bool)) (p : Option Key) (hp : p.isSome = decide (0 < i)) (hk : keyIn .i64 k.page = true) (hq : q.length ≤ 1000) : codec_inner_2 n (i : Int) k q = some (okKid p q k, (k.page, true) :: q) := by
  have h1 : mlook .i64 false q k.page = some (mget false q k.page) := by unfold mlook; rw [hk]
  have h2 : mput .i64 q k.page true = some ((k.page, true) :: q) := by unfold mput; rw [hk, Bool.true_and, show Nat.ble q.length 1000000 = true from Nat.ble_eq_true_of_le (by omega)]
  unfold codec_inner_2 okKid
  rw [h1, Option.bind_some, h2, Option.bind_some, hp]
  have h3 : decide ((i : Int) > 0) = decide (0 < i) := by simp
  simp only [jn, table_eq, Option.bind_some, h3, key0]
  cases mget false q k.page <;> cases decide (k.page > 0) <;> cases decide (k.page < 64) <;> cases okTab k.least.table <;> cases decide (0 < i) <;> rfl
def stepK (l : List Kid) (i : Nat) (k : Kid) (s : Bool × List (Int × Bool)) : Option (Bool × List (Int × Bool)) ⊕ (Bool × List (Int × Bool)) :=
  if s.1 then (if goK (prevL l i) s.2 k then .inr (true, (k.page, true) :: s.2) else .inl (some (false, (k.page, true) :: s.2))) else .inl (some (false, s.2))
theorem risesK_run (l : List Kid) : ∀ (t : List Kid) (i : Nat) (q : List (Int × Bool)), l.drop i = t → i ≤ l.length → ∃ q', runL (R := Bool × List (Int × Bool)) (stepK l) some t i (true, q) = some (risesK (prevL l i) q t, q')
  | [], i, q, h, hi => ⟨q, rfl⟩
  | k :: t, i, q, h, hi => by
    have hr : l[i]? = some k := by
      have := congrArg (fun x => x[0]?) h
      simpa using this
    have ht : l.drop (i + 1) = t := by rw [← List.drop_drop, h]; rfl
    have hlt : i < l.length := by
      rcases Nat.lt_or_ge i l.length with h1 | h1
      · exact h1
      · rw [List.drop_eq_nil_of_le h1] at h; cases h
    obtain ⟨q', ih⟩ := risesK_run l t (i + 1) ((k.page, true) :: q) ht hlt
    have hp : prevL l (i + 1) = some k.least := by simp [prevL, hr]
    rw [hp] at ih
    simp only [runL, risesK, stepK, if_true]
    cases hk : goK (prevL l i) q k with
    | true => exact ⟨q', by simp only [if_true, Bool.true_and]; exact ih⟩
    | false => exact ⟨_, rfl⟩
theorem risesK_eq (n : Nat) (l : List Kid) (hl : l.length ≤ 1000) (hn : 1003 ≤ n) (hk : ∀ k ∈ l, keyIn .i64 k.page = true) : ∃ q', codec_rises_Kid_f79_f80 n l 4 [] = some (decide (l.length ≤ 4) && risesK none [] l, q') := by
  have hfin : ∃ q', runL (R := Bool × List (Int × Bool)) (stepK l) some l 0 (decide ((l.length : Int) ≤ 4), []) = some (decide (l.length ≤ 4) && risesK none [] l, q') := by
    by_cases h4 : l.length ≤ 4
    · rw [decide_eq_true (by omega : (l.length : Int) ≤ 4), decide_eq_true h4, Bool.true_and]
      exact risesK_run l l 0 [] rfl (by omega)
    · rw [decide_eq_false (by omega : ¬ (l.length : Int) ≤ 4), decide_eq_false h4]
      cases l with
      | nil => simp at h4
      | cons x t => exact ⟨[], rfl⟩
  obtain ⟨q', hq'⟩ := hfin
  refine ⟨q', ?_⟩
  show codec_rises_Kid_f79_f80_l2 n (codec_rises_Kid_f79_f80_j1 n) n (l, decide ((l.length : Int) ≤ 4), l, (l.length : Int), ((0 : Nat) : Int), [], ()) = _
  unfold codec_rises_Kid_f79_f80_l2
  refine (run_loopI (R := Bool × List (Int × Bool)) l (fun (i : Nat) (s : Bool × List (Int × Bool)) => (l, s.1, l, (l.length : Int), (i : Int), s.2, ()))
    (stepK l) some (fun i s => s.2.length ≤ i) (fun i s x s' hx hi hs => ?_) (fun r i s x hx hi hs => ?_) (fun r s hs => ?_) n 0 (decide ((l.length : Int) ≤ 4), []) (by omega) (by omega) (by simp)).trans hq'
  · unfold stepK at hs
    split at hs
    · split at hs
      · injection hs with hs; subst hs; simp; exact hi
      · cases hs
    · cases hs
  · obtain ⟨b, q⟩ := s
    have hxk : keyIn .i64 x.page = true := hk x (List.mem_of_getElem? hx)
    have hp : (prevL l i).isSome = decide (0 < i) := by
      cases i with
      | zero => rfl
      | succ i => simp [prevL, get_some (show i < l.length by omega)]
    have hql : q.length ≤ i := hs
    simp only [lt_dec hi, cond_true, idx_nat, hx, Option.bind_some, inner2_eq n i x q (prevL l i) hp hxk (by omega), codec_inner_1, codec_rises_Kid_f79_f80_j1, Bool.not_true, Bool.not_false, cond_false]
    cases b with
    | false => rfl
    | true =>
      by_cases ho : okKid (prevL l i) q x = true
      · simp only [cond_true, stepK, if_true, goK, ho, Bool.true_and]
        cases i with
        | zero => simp [prevL, wrap_one]
        | succ i =>
          have hi' : l[i]? = some l[i] := get_some (by omega)
          have h0 : (((i + 1 : Nat) : Int) == 0) = false := by simp; omega
          simp only [h0, cond_false, wrap_pred (show i < 4611686018427387904 by omega), idx_nat, hi', Option.bind_some, compare_eq n (by omega), prevL, Option.map_some, wrap_succ (show i + 1 < 4611686018427387904 by omega)]
          show (cond (!ltK _ _) _ _ : Option (Bool × List (Int × Bool))) = _
          cases hkk : ltK l[i].least x.least <;> simp_all [ltK]
      · have ho : okKid (prevL l i) q x = false := by simpa using ho
        simp [stepK, goK, ho]
  · simp only [ge_dec (Nat.lt_irrefl _), cond_false, codec_rises_Kid_f79_f80_j1]

/-! ### Contents -/
def checkP (c : Content) : Bool :=
  if c.kind = 0 then decide (c.rows.length + c.kids.length = 0)
  else if c.kind = 1 then decide (c.kids.length = 0) && (decide (c.rows.length ≤ 4) && risesR none c.rows)
  else if c.kind = 2 then decide (c.rows.length = 0) && (decide (1 < c.kids.length) && (decide (c.kids.length ≤ 4) && risesK none [] c.kids)) else false
structure Fine (c : Content) : Prop where
  rows : c.rows.length ≤ 1000
  kids : c.kids.length ≤ 1000
  page : ∀ k ∈ c.kids, keyIn .i64 k.page = true
theorem beq0 {k : Nat} : (((k : Int)) == 0) = decide (k = 0) := by
  by_cases h : k = 0
  · subst h; rfl
  · rw [decide_eq_false h]; simp; omega
theorem ibeq (a b : Int) : (a == b) = decide (a = b) := by
  by_cases h : a = b
  · subst h; simp
  · rw [decide_eq_false h]; simp [h]
theorem inner_eq (n : Nat) (l : List Kid) (hl : l.length ≤ 1000) (hn : 1003 ≤ n) (hk : ∀ k ∈ l, keyIn .i64 k.page = true) : codec_inner n l = some (decide (1 < l.length) && (decide (l.length ≤ 4) && risesK none [] l)) := by
  unfold codec_inner
  obtain ⟨q', h⟩ := risesK_eq n l hl hn hk
  rw [h]
  by_cases h1 : 1 < l.length
  · rw [decide_eq_true (by omega : (l.length : Int) > 1), decide_eq_true h1]; simp
  · rw [decide_eq_false (by omega : ¬ (l.length : Int) > 1), decide_eq_false h1]; simp
theorem check_eq (n : Nat) (hn : 1003 ≤ n) (c : Content) (hc : Fine c) : codec_Check n c = some (if checkP c then 0 else 160) := by
  have hl : codec_leaf n c.rows = some (decide (c.rows.length ≤ 4) && risesR none c.rows) := by
    unfold codec_leaf; rw [rises_eq n _ hc.rows hn]; rfl
  have hi := inner_eq n c.kids hc.kids hn hc.page
  unfold codec_Check checkP
  simp only [jn, codec_Check_j1, codec_Check_j2, codec_Check_j3, hl, hi, Option.bind_some, wrap_add (show c.rows.length + c.kids.length < 4611686018427387904 by have := hc.rows; have := hc.kids; omega), beq0, ibeq c.kind]
  by_cases h0 : c.kind = 0
  · rw [if_pos h0, decide_eq_true h0]
    cases decide (c.rows.length + c.kids.length = 0) <;> rfl
  · rw [if_neg h0, decide_eq_false h0]
    by_cases h1 : c.kind = 1
    · rw [if_pos h1, decide_eq_true h1]
      cases decide (c.kids.length = 0) <;> cases (decide (c.rows.length ≤ 4) && risesR none c.rows) <;> rfl
    · rw [if_neg h1, decide_eq_false h1]
      by_cases h2 : c.kind = 2
      · rw [if_pos h2, decide_eq_true h2]
        cases decide (c.rows.length = 0) <;> cases (decide (1 < c.kids.length) && (decide (c.kids.length ≤ 4) && risesK none [] c.kids)) <;> rfl
      · rw [if_neg h2, decide_eq_false h2]; rfl

theorem runL_skip {α σ R : Type} {fin : σ → Option R} {s : σ} : ∀ (l : List α) (i : Nat), runL (fun _ _ s => .inr s) fin l i s = fin s
  | [], _ => rfl
  | _ :: t, i => runL_skip t (i + 1)
theorem runL_all {α R : Type} {p : α → Bool} {v : Option R} {fin : Unit → Option R} : ∀ (l : List α) (i : Nat), runL (fun _ x (_ : Unit) => if p x then .inr () else .inl v) fin l i () = if l.all p then fin () else v
  | [], _ => rfl
  | x :: t, i => by
    by_cases hp : p x = true
    · simp only [runL, List.all_cons, hp, if_true, Bool.true_and]; exact runL_all t (i + 1)
    · have hp : p x = false := by simpa using hp
      simp [runL, hp]
theorem asked2_eq (n : Nat) (hn : 1003 ≤ n) (cs : List Content) (hl : cs.length ≤ 1000) : page_asked_l2 n n (0, cs, (cs.length : Int), 0, ()) = some 0 := by
  show page_asked_l2 n n (0, cs, (cs.length : Int), ((0 : Nat) : Int), ()) = some 0
  unfold page_asked_l2
  refine (run_loop cs (fun (i : Nat) (_ : Unit) => ((0 : Int), cs, (cs.length : Int), (i : Int), ())) (fun _ _ s => .inr s) (fun _ => some 0) (fun r i s x hx hi => ?_) (fun r s => ?_) n 0 () (by omega) (by omega)).trans ?_
  · simp only [lt_dec hi, cond_true, idx_nat, hx, Option.bind_some, jn, wrap_succ (show i < 4611686018427387904 by omega)]
    rfl
  · simp only [ge_dec (Nat.lt_irrefl _), cond_false]
  · exact runL_skip _ _
theorem asked_eq (n : Nat) (hn : 1003 ≤ n) (cs : List Content) (hl : cs.length ≤ 1000) (hc : ∀ c ∈ cs, Fine c) : page_asked n 0 cs = some (if cs.all checkP then 0 else 160) := by
  show page_asked_l1 n n (0, cs, cs, (cs.length : Int), ((0 : Nat) : Int), ()) = _
  unfold page_asked_l1
  refine (run_loop cs (fun (i : Nat) (_ : Unit) => ((0 : Int), cs, cs, (cs.length : Int), (i : Int), ())) (fun _ c _ => if checkP c then .inr () else .inl (some 160)) (fun _ => some 0) (fun r i s x hx hi => ?_) (fun r s => ?_) n 0 () (by omega) (by omega)).trans ?_
  · simp only [lt_dec hi, cond_true, idx_nat, hx, Option.bind_some, check_eq n hn x (hc x (List.mem_of_getElem? hx)), wrap_succ (show i < 4611686018427387904 by omega)]
    cases checkP x <;> rfl
  · simp only [ge_dec (Nat.lt_irrefl _), cond_false]
    exact asked2_eq n hn cs hl
  · rw [List.drop_zero, runL_all]
    cases cs.all checkP <;> rfl
def sizeP (c : Content) : Nat := c.rows.length + c.kids.length
theorem size_eq (n : Nat) (c : Content) (hc : Fine c) : page_size n c = some (sizeP c : Int) := by
  unfold page_size
  rw [wrap_add (by have := hc.rows; have := hc.kids; omega)]; rfl
def fullP (c : Content) : Bool := (decide (c.kind = 1) || decide (c.kind = 2)) && decide (sizeP c = 4)
theorem ieq4 {k m : Nat} : (((k : Int)) == (m : Int)) = decide (k = m) := by
  rw [ibeq]
  by_cases h : k = m
  · subst h; simp
  · rw [decide_eq_false h, decide_eq_false (by omega)]
theorem full_eq (n : Nat) (c : Content) (hc : Fine c) : page_full n c = some (fullP c) := by
  unfold page_full fullP
  have h4 : (((sizeP c : Nat) : Int) == 4) = decide (sizeP c = 4) := ieq4 (m := 4)
  simp only [jn, size_eq n c hc, Option.bind_some, h4, ibeq c.kind]
  by_cases h1 : c.kind = 1
  · rw [decide_eq_true h1]
    cases decide (sizeP c = 4) <;> simp [h1]
  · rw [decide_eq_false h1]
    cases decide (c.kind = 2) <;> cases decide (sizeP c = 4) <;> rfl
theorem cloneR_eq (n : Nat) (l : List Row) (h : l.length ≤ 1000) : slices_Clone_Row n l = some l := clone_eq (by omega) (by decide)
theorem cloneK_eq (n : Nat) (l : List Kid) (h : l.length ≤ 1000) : slices_Clone_Kid n l = some l := clone_eq (by omega) (by decide)
theorem cutR_eq (n : Nat) (l : List Row) (h : l.length ≤ 1000) (k : Nat) (hk : k ≤ l.length) : page_cut_Row n l (k : Int) = some (l.take k, l.drop k) := by
  unfold page_cut_Row
  rw [show sub l 0 (k : Int) = some (l.take k) from (sub_ok (Nat.zero_le k) hk).trans (by simp)]
  rw [show sub l (k : Int) (l.length : Int) = some (l.drop k) from (sub_ok hk (Nat.le_refl _)).trans (by rw [List.take_of_length_le (by simp)])]
  simp only [Option.bind_some]
  rw [cloneR_eq n _ (by simp; omega), Option.bind_some, cloneR_eq n _ (by simp; omega), Option.bind_some]
theorem cutK_eq (n : Nat) (l : List Kid) (h : l.length ≤ 1000) (k : Nat) (hk : k ≤ l.length) : page_cut_Kid n l (k : Int) = some (l.take k, l.drop k) := by
  unfold page_cut_Kid
  rw [show sub l 0 (k : Int) = some (l.take k) from (sub_ok (Nat.zero_le k) hk).trans (by simp)]
  rw [show sub l (k : Int) (l.length : Int) = some (l.drop k) from (sub_ok hk (Nat.le_refl _)).trans (by rw [List.take_of_length_le (by simp)])]
  simp only [Option.bind_some]
  rw [cloneK_eq n _ (by simp; omega), Option.bind_some, cloneK_eq n _ (by simp; omega), Option.bind_some]
theorem first_eq (n : Nat) (k : Key) (x : Kid) (t : List Kid) : page_first n k (x :: t) = some (x.least, Kid.mk k x.page :: t) := by
  unfold page_first
  rw [show idx (x :: t) 0 = some x from idx_zero _]
  simp only [Option.bind_some]
  rw [show put (x :: t) 0 (Kid.mk k x.page) = some (Kid.mk k x.page :: t) from put_ok (l := x :: t) (i := 0) (by simp)]
  rfl
/-! ### Rows and kids put together -/
theorem concatR_eq (n : Nat) (hn : 1003 ≤ n) (a b : List Row) (ha : a.length ≤ 1000) (hb : b.length ≤ 1000) : slices_Concat_Row n [a, b] = some (a ++ b) := by
  have hg : slices_Grow_Row n ((a.length + b.length : Nat) : Int) = some [] := by
    show growL 40 _ = _
    unfold growL
    rw [if_pos (by omega), Int.toNat_natCast, room_ok (by omega)]
  have h3 : slices_Concat_Row_l3 n n ([a, b], 2, 0, [], ()) = some (a ++ b) := by
    show slices_Concat_Row_l3 n n ([a, b], (([a, b] : List (List Row)).length : Int), ((0 : Nat) : Int), [], ()) = _
    unfold slices_Concat_Row_l3
    refine (run_loop [a, b] (fun (i : Nat) (s : List Row) => ([a, b], (([a, b] : List (List Row)).length : Int), (i : Int), s, ())) (fun _ x s => match app 40 s x with | some l => .inr l | none => .inl none) (fun s => some s) (fun r i s x hx hi => ?_) (fun r s => ?_) n 0 [] (by simp) (by simp; omega)).trans ?_
    · simp only [lt_dec hi, cond_true, idx_nat, hx, Option.bind_some, wrap_succ (show i < 4611686018427387904 by simp at hi; omega)]
      cases app 40 s x <;> rfl
    · simp only [ge_dec (Nat.lt_irrefl _), cond_false]
    · have h1 : app 40 ([] : List Row) a = some a := by rw [app_lt (by simpa using (by omega : a.length ≤ 1000000)) (by decide)]; rfl
      have h2 : app 40 a b = some (a ++ b) := app_lt (by omega) (by decide)
      simp only [List.drop_zero, runL, h1, h2]
  show slices_Concat_Row_l1 n n ([a, b], 0, [a, b], (([a, b] : List (List Row)).length : Int), ((0 : Nat) : Int), ()) = _
  unfold slices_Concat_Row_l1
  refine (run_loop [a, b] (fun (i : Nat) (s : Int) => ([a, b], s, [a, b], (([a, b] : List (List Row)).length : Int), (i : Int), ())) (fun _ x s => if IntKind.wrap .i64 (s + (x.length : Int)) < 0 then .inl none else .inr (IntKind.wrap .i64 (s + (x.length : Int)))) (fun s => (slices_Grow_Row n s).bind fun y => slices_Concat_Row_l3 n n ([a, b], 2, 0, y, ())) (fun r i s x hx hi => ?_) (fun r s => ?_) n 0 0 (by simp) (by simp; omega)).trans ?_
  · simp only [lt_dec hi, cond_true, idx_nat, hx, Option.bind_some, jn, slices_Concat_Row_j2, wrap_succ (show i < 4611686018427387904 by simp at hi; omega)]
    by_cases hs : IntKind.wrap .i64 (s + (x.length : Int)) < 0
    · rw [decide_eq_true hs, if_pos hs]; rfl
    · rw [decide_eq_false hs, if_neg hs]; rfl
  · simp only [ge_dec (Nat.lt_irrefl _), cond_false]
    rfl
  · have e1 : IntKind.wrap .i64 (0 + (a.length : Int)) = (a.length : Int) := by rw [Int.zero_add]; exact wrap_in (by omega)
    have e2 : IntKind.wrap .i64 ((a.length : Int) + (b.length : Int)) = ((a.length + b.length : Nat) : Int) := wrap_add (by omega)
    simp only [List.drop_zero, runL, e1, if_neg (show ¬ (a.length : Int) < 0 by omega), e2, if_neg (show ¬ ((a.length + b.length : Nat) : Int) < 0 by omega), hg, Option.bind_some, h3]
theorem concatK_eq (n : Nat) (hn : 1003 ≤ n) (a b : List Kid) (ha : a.length ≤ 1000) (hb : b.length ≤ 1000) : slices_Concat_Kid n [a, b] = some (a ++ b) := by
  have hg : slices_Grow_Kid n ((a.length + b.length : Nat) : Int) = some [] := by
    show growL 24 _ = _
    unfold growL
    rw [if_pos (by omega), Int.toNat_natCast, room_ok (by omega)]
  have h3 : slices_Concat_Kid_l3 n n ([a, b], 2, 0, [], ()) = some (a ++ b) := by
    show slices_Concat_Kid_l3 n n ([a, b], (([a, b] : List (List Kid)).length : Int), ((0 : Nat) : Int), [], ()) = _
    unfold slices_Concat_Kid_l3
    refine (run_loop [a, b] (fun (i : Nat) (s : List Kid) => ([a, b], (([a, b] : List (List Kid)).length : Int), (i : Int), s, ())) (fun _ x s => match app 24 s x with | some l => .inr l | none => .inl none) (fun s => some s) (fun r i s x hx hi => ?_) (fun r s => ?_) n 0 [] (by simp) (by simp; omega)).trans ?_
    · simp only [lt_dec hi, cond_true, idx_nat, hx, Option.bind_some, wrap_succ (show i < 4611686018427387904 by simp at hi; omega)]
      cases app 24 s x <;> rfl
    · simp only [ge_dec (Nat.lt_irrefl _), cond_false]
    · have h1 : app 24 ([] : List Kid) a = some a := by rw [app_lt (by simpa using (by omega : a.length ≤ 1000000)) (by decide)]; rfl
      have h2 : app 24 a b = some (a ++ b) := app_lt (by omega) (by decide)
      simp only [List.drop_zero, runL, h1, h2]
  show slices_Concat_Kid_l1 n n ([a, b], 0, [a, b], (([a, b] : List (List Kid)).length : Int), ((0 : Nat) : Int), ()) = _
  unfold slices_Concat_Kid_l1
  refine (run_loop [a, b] (fun (i : Nat) (s : Int) => ([a, b], s, [a, b], (([a, b] : List (List Kid)).length : Int), (i : Int), ())) (fun _ x s => if IntKind.wrap .i64 (s + (x.length : Int)) < 0 then .inl none else .inr (IntKind.wrap .i64 (s + (x.length : Int)))) (fun s => (slices_Grow_Kid n s).bind fun y => slices_Concat_Kid_l3 n n ([a, b], 2, 0, y, ())) (fun r i s x hx hi => ?_) (fun r s => ?_) n 0 0 (by simp) (by simp; omega)).trans ?_
  · simp only [lt_dec hi, cond_true, idx_nat, hx, Option.bind_some, jn, slices_Concat_Kid_j2, wrap_succ (show i < 4611686018427387904 by simp at hi; omega)]
    by_cases hs : IntKind.wrap .i64 (s + (x.length : Int)) < 0
    · rw [decide_eq_true hs, if_pos hs]; rfl
    · rw [decide_eq_false hs, if_neg hs]; rfl
  · simp only [ge_dec (Nat.lt_irrefl _), cond_false]
    rfl
  · have e1 : IntKind.wrap .i64 (0 + (a.length : Int)) = (a.length : Int) := by rw [Int.zero_add]; exact wrap_in (by omega)
    have e2 : IntKind.wrap .i64 ((a.length : Int) + (b.length : Int)) = ((a.length + b.length : Nat) : Int) := wrap_add (by omega)
    simp only [List.drop_zero, runL, e1, if_neg (show ¬ (a.length : Int) < 0 by omega), e2, if_neg (show ¬ ((a.length + b.length : Nat) : Int) < 0 by omega), hg, Option.bind_some, h3]
end Go.Proofs.Ytjgcapbmhcmcfaa
