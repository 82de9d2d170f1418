/- Layer 9 (waits): which edges may be. -/
import Derived.Test.YtkfemopgfjooeaaF3
import Derived.Test.YtkfemopgfjooeaaGra
import Derived.Test.YtkfemopgfjooeaaRw
namespace Go.Proofs.Ytkfemopgfjooeaa
open Go.Bur
set_option linter.unusedSimpArgs false
set_option linter.unusedVariables false
set_option maxRecDepth 100000

def cmpI (a b : Int) : Int := if a < b then -1 else if a > b then 1 else 0
theorem compare_int (n : Nat) (a b : Int) : cmp_Compare_int n a b = some (cmpI a b) := by
  unfold cmp_Compare_int cmp_isNaN_int cmpI
  by_cases h1 : a < b
  · simp [h1]
  · by_cases h2 : a > b
    · simp [h1, h2]
    · simp [h1, h2]
theorem or2 (n : Nat) (hn : 3 ≤ n) (a b : Int) : cmp_Or_int n [a, b] = some (if a ≠ 0 then a else b) := by
  obtain ⟨n, rfl⟩ : ∃ m, n = m + 3 := ⟨n - 3, by omega⟩
  unfold cmp_Or_int cmp_Or_int_l1
  by_cases ha : a = 0
  · by_cases hb : b = 0
    · subst ha hb; rfl
    · subst ha
      have : (b != 0) = true := by simpa using hb
      simp [loopF, idx, IntKind.wrap_i64, this]
  · have : (a != 0) = true := by simpa using ha
    simp [loopF, idx, this, ha]
theorem cmpI_zero {a b : Int} : cmpI a b = 0 ↔ a = b := by unfold cmpI; split <;> (try split) <;> omega
theorem cmpI_lt {a b : Int} : cmpI a b < 0 ↔ a < b := by unfold cmpI; split <;> (try split) <;> omega
instance : DecidableEq Edge := fun a b => match Int.decEq a.from_ b.from_, Int.decEq a.to b.to with
  | .isTrue h, .isTrue k => .isTrue (by cases a; cases b; simp_all)
  | .isFalse h, _ => .isFalse (fun e => h (by rw [e]))
  | _, .isFalse h => .isFalse (fun e => h (by rw [e]))
def cE (a b : Edge) : Int := if cmpI a.from_ b.from_ ≠ 0 then cmpI a.from_ b.from_ else cmpI a.to b.to
def ltE (a b : Edge) : Bool := decide (a.from_ < b.from_ ∨ a.from_ = b.from_ ∧ a.to < b.to)
theorem ltE_iff {a b : Edge} : ltE a b = true ↔ a.from_ < b.from_ ∨ a.from_ = b.from_ ∧ a.to < b.to := by unfold ltE; exact decide_eq_true_iff
theorem cE_lt {a b : Edge} : cE a b < 0 ↔ ltE a b = true := by
  rw [ltE_iff]
  unfold cE
  by_cases h : cmpI a.from_ b.from_ = 0
  · have := cmpI_zero.1 h
    simp only [ne_eq, h, not_true_eq_false, if_false, cmpI_lt]
    omega
  · have h' : a.from_ ≠ b.from_ := fun e => h (cmpI_zero.2 e)
    simp only [ne_eq, h, not_false_eq_true, if_true, cmpI_lt]
    omega
theorem cE_ge {a b : Edge} : decide (cE a b ≥ 0) = !ltE a b := by
  have := cE_lt (a := a) (b := b)
  by_cases h : ltE a b = true
  · rw [h, decide_eq_false (by have := this.2 h; omega)]; rfl
  · rw [decide_eq_true (by have : ¬ cE a b < 0 := fun e => h (this.1 e); omega)]
    simp only [Bool.not_eq_true] at h
    rw [h]; rfl
theorem compareE (n : Nat) (hn : 1003 ≤ n) (a b : Edge) : waits_compare n a b = some (cE a b) := by
  unfold waits_compare
  simp only [compare_int, Option.bind_some, or2 n (by omega)]
  rfl
def mayB (e : Edge) : Bool := decide (0 < e.from_ ∧ 0 < e.to ∧ e.from_ ≠ e.to)
theorem mayB_iff {e : Edge} : mayB e = true ↔ 0 < e.from_ ∧ 0 < e.to ∧ e.from_ ≠ e.to := by unfold mayB; exact decide_eq_true_iff
theorem mayE (n : Nat) (e : Edge) : waits_may n e = some (mayB e) := by
  unfold waits_may mayB
  simp only [jn, ibne]
  by_cases h1 : e.from_ > 0 <;> by_cases h2 : e.to > 0 <;> by_cases h3 : e.from_ = e.to <;> simp [h1, h2, h3]
  all_goals omega

/-! ### A walk that checks, and gathers -/
theorem runL_chk {α σ R : Type} {p : Nat → α → Bool} {g : α → σ → σ} {v : Option R} {fin : σ → Option R} : ∀ (l : List α) (i : Nat) (s : σ), runL (fun i x s => if p i x then .inr (g x s) else .inl v) fin l i s = if allFrom p i l then fin (l.foldl (fun s x => g x s) s) else v
  | [], _, _ => rfl
  | x :: t, i, s => by
    by_cases hp : p i x = true
    · simp only [runL, allFrom, hp, if_true, Bool.true_and, List.foldl_cons]; exact runL_chk t (i + 1) _
    · have hp : p i x = false := by simpa using hp
      simp [runL, allFrom, hp]
def metE (e : Edge) (m : List (Int × Bool)) : List (Int × Bool) := (e.to, true) :: (e.from_, true) :: m
def met (l : List Edge) : List (Int × Bool) := l.foldl (fun s x => metE x s) []
def KeysIn (l : List Edge) : Prop := ∀ e ∈ l, keyIn .i64 e.from_ = true ∧ keyIn .i64 e.to = true
def chainE (l : List Edge) : Bool := chainB mayB ltE none l
def rightP (l : List Edge) : Bool := chainE l && decide ((mkeys (met l)).length ≤ 8)
theorem mput_ok {m : List (Int × Bool)} {x : Int} {v : Bool} (hk : keyIn .i64 x = true) (hm : m.length ≤ 1000000) : mput .i64 m x v = some ((x, v) :: m) := by
  unfold mput
  rw [hk, Nat.ble_eq_true_of_le hm]; rfl
theorem rightE (n : Nat) (hn : 1003 ≤ n) (l : List Edge) (hl : l.length ≤ 500) (hk : KeysIn l) : waits_right n l = some (rightP l) := by
  unfold waits_right
  show waits_right_l1 n n (l, l, (l.length : Int), ((0 : Nat) : Int), [], ()) = _
  unfold waits_right_l1
  rw [run_loopI l (fun i s => (l, l, (l.length : Int), (i : Int), s, ())) (fun i x s => if stepA mayB ltE l i x then .inr (metE x s) else .inl (some false)) (fun s => some (decide (((mkeys s).length : Int) ≤ 8))) (fun i s => s.length = 2 * i) ?_ ?_ ?_ n 0 _ (Nat.zero_le _) (by omega) rfl]
  · rw [List.drop_zero, runL_chk, allFrom_chain]
    unfold rightP chainE met
    cases chainB mayB ltE none l with
    | false => rfl
    | true => simp only [if_true, Bool.true_and]; congr 1; exact decide_eq_decide.2 (by omega)
  · intro i s x s' hx hI h
    split at h
    · cases h
      show (metE x s).length = _
      simp only [metE, List.length_cons]; omega
    · cases h
  · intro r i s x hx hi hI
    have hm := hk x (List.mem_of_getElem? hx)
    simp only [lt_dec hi, cond_true, idx_nat, hx, Option.bind_some, mayE, jn]
    have hput : ((mput .i64 s x.from_ true).bind fun l10 => (mput .i64 l10 x.to true).bind fun l11 => r (l, l, (l.length : Int), IntKind.wrap .i64 ((i : Int) + 1), l11, ())) = r (l, l, (l.length : Int), ((i + 1 : Nat) : Int), metE x s, ()) := by
      rw [mput_ok hm.1 (by omega), Option.bind_some, mput_ok hm.2 (by simp only [List.length_cons]; omega), Option.bind_some, wrap_succ (by omega)]; rfl
    unfold stepA
    cases hb : mayB x with
    | false => rfl
    | true =>
      simp only [Bool.not_true, cond_false, Bool.true_and]
      cases i with
      | zero =>
        rw [decide_eq_false (by omega)]
        simp only [cond_false, prevO, prevOk, if_true]
        exact hput
      | succ j =>
        rw [decide_eq_true (by omega)]
        simp only [cond_true, wrap_pred (show j < 4611686018427387904 by omega), idx_nat, get_some (show j < l.length by omega), Option.bind_some, compareE n hn, cE_ge, prevO, prevOk]
        cases ltE l[j] x with
        | true => simp only [Bool.not_true, cond_false, if_true]; exact hput
        | false => rfl
  · intro r s hI
    simp only [ge_dec (Nat.lt_irrefl _), cond_false]
theorem mhas_met {x : Int} : ∀ {l : List Edge} {m : List (Int × Bool)}, mhas (l.foldl (fun s x => metE x s) m) x = true ↔ mhas m x = true ∨ ∃ e ∈ l, e.from_ = x ∨ e.to = x
  | [], m => by simp
  | e :: l, m => by
    rw [List.foldl_cons, mhas_met (l := l)]
    simp only [metE, mhas, List.any_cons, Bool.or_eq_true, decide_eq_true_iff, List.mem_cons]
    constructor
    · rintro ((h | h | h) | ⟨f, hf, h⟩)
      · exact .inr ⟨e, .inl rfl, .inr h⟩
      · exact .inr ⟨e, .inl rfl, .inl h⟩
      · exact .inl h
      · exact .inr ⟨f, .inr hf, h⟩
    · rintro (h | ⟨f, rfl | hf, h⟩)
      · exact .inl (.inr (.inr h))
      · rcases h with h | h
        · exact .inl (.inr (.inl h))
        · exact .inl (.inl h)
      · exact .inr ⟨f, hf, h⟩
theorem mem_met {x : Int} {l : List Edge} : x ∈ mkeys (met l) ↔ ∃ e ∈ l, e.from_ = x ∨ e.to = x := by
  rw [mem_mkeys]
  unfold met
  rw [mhas_met]
  simp [mhas]

/-! ### The reference -/
/-- What 'with' has gathered: whether the number is laid, and the numbers. -/
def layW (n x : Int) (s : Bool × List Int) : Bool × List Int :=
  let d := if x = n then true else s.1
  if !d && decide (n < x) then (true, s.2 ++ [n] ++ [x]) else (d, s.2 ++ [x])
def layF (n : Int) (s : Bool × List Int) : List Int := if s.1 then s.2 else s.2 ++ [n]
theorem layW_on {n : Int} : ∀ {l : List Int} {acc : List Int}, l.foldl (fun s x => layW n x s) (true, acc) = (true, acc ++ l)
  | [], acc => by simp
  | x :: l, acc => by
    rw [List.foldl_cons]
    have e : layW n x (true, acc) = (true, acc ++ [x]) := by unfold layW; simp
    rw [e, layW_on]; simp
theorem layW_off {n : Int} : ∀ {l : List Int} {acc : List Int}, l.Pairwise (· < ·) → layF n (l.foldl (fun s x => layW n x s) (false, acc)) = acc ++ insU l n
  | [], acc, _ => rfl
  | x :: l, acc, h => by
    obtain ⟨h1, h2⟩ := List.pairwise_cons.1 h
    rw [List.foldl_cons]
    unfold insU
    by_cases hlt : n < x
    · have e : layW n x (false, acc) = (true, acc ++ [n] ++ [x]) := by
        unfold layW
        rw [if_neg (by omega : ¬ x = n), decide_eq_true hlt]; rfl
      rw [e, layW_on, if_pos hlt]
      simp [layF]
    · rw [if_neg hlt]
      by_cases he : x = n
      · have e : layW n x (false, acc) = (true, acc ++ [x]) := by
          unfold layW
          rw [if_pos he]; rfl
        rw [e, layW_on, if_pos he]
        simp [layF]
      · have e : layW n x (false, acc) = (false, acc ++ [x]) := by
          unfold layW
          rw [if_neg he, decide_eq_false hlt]; rfl
        rw [e, layW_off h2, if_neg he]; simp
theorem layW_len {n x : Int} {s : Bool × List Int} : (layW n x s).2.length ≤ s.2.length + 2 := by
  obtain ⟨d, acc⟩ := s
  by_cases h1 : x = n
  · simp [layW, h1]
  · by_cases h2 : n < x <;> cases d <;> simp [layW, h1, h2]
theorem withN (n : Nat) (hn : 1003 ≤ n) (l : List Int) (hl : l.length ≤ 500) (hu : l.Pairwise (· < ·)) (x : Int) : ref09_with n l x = some (insU l x) := by
  unfold ref09_with
  show ref09_with_l1 n n (l, x, false, ((0 : Nat) : Int), [], ()) = _
  unfold ref09_with_l1
  rw [run_loopI l (fun i (s : Bool × List Int) => (l, x, s.1, (i : Int), s.2, ())) (fun _ y s => .inr (layW x y s)) (fun s => some (layF x s)) (fun i s => s.2.length ≤ 2 * i) ?_ ?_ ?_ n 0 (false, []) (Nat.zero_le _) (by omega) (Nat.le_refl _)]
  · rw [List.drop_zero, runL_fold, layW_off hu]; rfl
  · intro i s y s' hy hI h
    cases h
    have := layW_len (n := x) (x := y) (s := s); omega
  · intro r i s y hy hi hI
    simp only [lt_dec hi, cond_true, idx_nat, hy, Option.bind_some, jn, ref09_with_j2, ref09_with_j3, ibeq]
    unfold layW
    obtain ⟨d, acc⟩ := s
    simp only at hI ⊢
    have ha : ∀ (q : List Int), q.length ≤ 1000 → ∀ z : Int, app 8 q [z] = some (q ++ [z]) := fun q hq z => app_lt (by simp; omega) (by omega)
    by_cases he : y = x
    · rw [decide_eq_true he, if_pos he]
      simp only [cond_true, Bool.not_true, cond_false, hy, Option.bind_some, ha acc (by omega), Bool.false_and, Bool.false_eq_true, if_false, wrap_succ (show i < 4611686018427387904 by omega)]
    · rw [decide_eq_false he, if_neg he]
      simp only [cond_false]
      cases d with
      | true => simp only [cond_true, Bool.not_true, cond_false, hy, Option.bind_some, ha acc (by omega), Bool.false_and, Bool.false_eq_true, if_false, wrap_succ (show i < 4611686018427387904 by omega)]
      | false =>
        simp only [Bool.not_false, cond_true, hy, Option.bind_some, Bool.true_and]
        by_cases hlt : x < y
        · simp only [decide_eq_true hlt, cond_true, ha acc (by omega), Option.bind_some, hy, if_true, ha (acc ++ [x]) (by simp; omega), wrap_succ (show i < 4611686018427387904 by omega)]
        · simp only [decide_eq_false hlt, cond_false, hy, Option.bind_some, ha acc (by omega), Bool.false_eq_true, if_false, wrap_succ (show i < 4611686018427387904 by omega)]
  · intro r s hI
    simp only [ge_dec (Nat.lt_irrefl _), cond_false, jn, ref09_with_j4]
    unfold layF
    obtain ⟨d, acc⟩ := s
    cases d with
    | true => rfl
    | false =>
      simp only [Bool.not_false, cond_true, app_lt (show acc.length + [x].length ≤ 1000000 by simp at hI ⊢; omega) (show 8 ≤ 1000 by omega), Option.bind_some, Bool.false_eq_true, if_false]
def names (l : List Edge) : List Int := l.foldl (fun s e => insU (insU s e.from_) e.to) []
theorem up_names {l : List Edge} : (names l).Pairwise (· < ·) := foldl_inv (I := fun s : List Int => s.Pairwise (· < ·)) List.Pairwise.nil fun s e _ h => up_insU (up_insU h)
theorem mem_namesF {x : Int} : ∀ {l : List Edge} {s : List Int}, x ∈ l.foldl (fun s e => insU (insU s e.from_) e.to) s ↔ x ∈ s ∨ ∃ e ∈ l, e.from_ = x ∨ e.to = x
  | [], s => by simp
  | e :: l, s => by
    rw [List.foldl_cons, mem_namesF (l := l), mem_insU, mem_insU]
    simp only [List.mem_cons]
    constructor
    · rintro (((h | h) | h) | ⟨f, hf, h⟩)
      · exact .inl h
      · exact .inr ⟨e, .inl rfl, .inl h.symm⟩
      · exact .inr ⟨e, .inl rfl, .inr h.symm⟩
      · exact .inr ⟨f, .inr hf, h⟩
    · rintro (h | ⟨f, rfl | hf, h⟩)
      · exact .inl (.inl (.inl h))
      · rcases h with h | h
        · exact .inl (.inl (.inr h.symm))
        · exact .inl (.inr h.symm)
      · exact .inr ⟨f, hf, h⟩
theorem mem_names {x : Int} {l : List Edge} : x ∈ names l ↔ ∃ e ∈ l, e.from_ = x ∨ e.to = x := by
  unfold names
  rw [mem_namesF]; simp
theorem names_len (l : List Edge) : (names l).length = (mkeys (met l)).length :=
  nodup_ext_len (up_nodup up_names) mkeys_nodup fun x => by rw [mem_names, mem_met]
/-! ### Edges that may be -/
abbrev eR (l : List Edge) (a b : Int) : Prop := Edge.mk a b ∈ l
structure GoodE (l : List Edge) (ns : List Int) : Prop where
  nd : ns.Nodup
  len8 : ns.length ≤ 8
  ends : ∀ e ∈ l, e.from_ ∈ ns ∧ e.to ∈ ns
  key : ∀ x ∈ ns, keyIn .i64 x = true
  pos : ∀ x ∈ ns, 0 < x
  len : l.length ≤ 200
  srt : l.Pairwise fun a b => ltE a b = true
  may : ∀ e ∈ l, mayB e = true
theorem ltE_trans (a b c : Edge) (h : ltE a b = true) (k : ltE b c = true) : ltE a c = true := by
  rw [ltE_iff] at *; omega
theorem right_good {l : List Edge} (hl : l.length ≤ 200) (hk : KeysIn l) (h : rightP l = true) : GoodE l (names l) := by
  unfold rightP chainE at h
  rw [Bool.and_eq_true, chain_iff ltE_trans, decide_eq_true_iff, ← names_len] at h
  obtain ⟨⟨h1, h2, _⟩, h3⟩ := h
  refine ⟨up_nodup up_names, h3, fun e he => ⟨mem_names.2 ⟨e, he, .inl rfl⟩, mem_names.2 ⟨e, he, .inr rfl⟩⟩, fun x hx => ?_, fun x hx => ?_, hl, h2, h1⟩
  · obtain ⟨e, he, rfl | rfl⟩ := mem_names.1 hx
    · exact (hk e he).1
    · exact (hk e he).2
  · obtain ⟨e, he, rfl | rfl⟩ := mem_names.1 hx
    · exact (mayB_iff.1 (h1 e he)).1
    · exact (mayB_iff.1 (h1 e he)).2.1
theorem good_right {l : List Edge} {ns : List Int} (h : GoodE l ns) : rightP l = true := by
  unfold rightP chainE
  rw [Bool.and_eq_true, chain_iff ltE_trans, decide_eq_true_iff, ← names_len]
  refine ⟨⟨h.may, h.srt, fun y hy => by cases hy⟩, Nat.le_trans (nodup_sub_len (up_nodup up_names) fun x hx => ?_) h.len8⟩
  obtain ⟨e, he, rfl | rfl⟩ := mem_names.1 hx
  · exact (h.ends e he).1
  · exact (h.ends e he).2
theorem GoodE.keys {l : List Edge} {ns : List Int} (h : GoodE l ns) : KeysIn l := fun e he => ⟨h.key _ (h.ends e he).1, h.key _ (h.ends e he).2⟩
theorem GoodE.filter {l : List Edge} {ns : List Int} (h : GoodE l ns) (p : Edge → Bool) : GoodE (l.filter p) ns :=
  ⟨h.nd, h.len8, fun e he => h.ends e (List.mem_filter.1 he).1, h.key, h.pos, Nat.le_trans (List.length_filter_le _ _) h.len, h.srt.filter _, fun e he => h.may e (List.mem_filter.1 he).1⟩
theorem GoodE.names {l : List Edge} {ns : List Int} (h : GoodE l ns) : GoodE l (names l) := right_good h.len h.keys (good_right h)
theorem keyIn_i64 {x : Int} (h : inI .i64 x) : keyIn .i64 x = true := by
  unfold keyIn
  obtain ⟨h1, h2⟩ := h
  simp [Lit.wf, h1]
  exact h2
theorem keys_of {l : List Edge} (h : okT tab 9 (.sl (.st 0)) l) : KeysIn l := fun e he => ⟨keyIn_i64 (h.1 e he).1, keyIn_i64 (h.1 e he).2.1⟩
end Go.Proofs.Ytkfemopgfjooeaa

/- Layer 9 (waits): who is reached, who is bound, the victim. -/
namespace Go.Proofs.Ytkfemopgfjooeaa
open Go.Bur
set_option linter.unusedSimpArgs false
set_option linter.unusedVariables false
set_option maxRecDepth 100000

/-! ### Those for whom one waits -/
def goE {Z : Type} (g : Int → Z → Option Z) (t : Int) : List Edge → Z → Option Z
  | [], z => some z
  | e :: q, z => if e.from_ = t then (g e.to z).bind (goE g t q) else goE g t q z
def stE {Z R : Type} (g : Int → Z → Option Z) (t : Int) (e : Edge) (z : Z) : Option R ⊕ Z := if e.from_ = t then (match g e.to z with | some z' => .inr z' | none => .inl none) else .inr z
theorem runL_go {Z R : Type} {g : Int → Z → Option Z} {t : Int} {fin : Z → R} : ∀ (l : List Edge) (i : Nat) (z : Z), runL (fun _ e z => stE g t e z) (fun z => some (fin z)) l i z = (goE g t l z).map fin
  | [], _, _ => rfl
  | e :: l, i, z => by
    simp only [runL, goE]
    unfold stE
    by_cases h : e.from_ = t
    · simp only [if_pos h]
      cases hg : g e.to z with
      | none => rfl
      | some z' => simp only [Option.bind_some]; exact runL_go l (i + 1) z'
    · simp only [if_neg h]; exact runL_go l (i + 1) z
theorem next0 (n : Nat) (l : List Edge) (hl : l.length ≤ 200) (hn : 202 ≤ n) (t : Int) (g : Int → _ → Option _) (f) (hf : ∀ y z, f y z = (g y.1 z).map fun z' => (0, z')) (z) : waits_next_1_fyd0 n l t f 0 z = (goE g t l z).map fun z' => (f, 0, z') := by
  unfold waits_next_1_fyd0
  show waits_next_1_fyd0_l1 n n (t, l, (l.length : Int), ((0 : Nat) : Int), f, 0, z, ()) = _
  unfold waits_next_1_fyd0_l1
  rw [run_loop l (fun i z => (t, l, (l.length : Int), (i : Int), f, 0, z, ())) (fun _ e z => stE g t e z) (fun z => some (f, 0, z)) ?_ ?_ n 0 z (Nat.zero_le _) (by omega)]
  · rw [List.drop_zero, runL_go]
  · intro r i z x hx hi
    simp only [lt_dec hi, cond_true, idx_nat, hx, Option.bind_some, ibeq]
    unfold stE
    by_cases h : x.from_ = t
    · rw [decide_eq_true h, if_pos h]
      simp only [cond_true, callY, hf]
      cases g x.to z with
      | none => rfl
      | some z' => simp only [Option.map_some, Option.bind_some, Nat.beq_refl, Bool.not_true, cond_false, wrap_succ (show i < 4611686018427387904 by omega)]
    · rw [decide_eq_false h, if_neg h]
      simp only [cond_false, wrap_succ (show i < 4611686018427387904 by omega)]
  · intro r z
    simp only [ge_dec (Nat.lt_irrefl _), cond_false]

/-! ### reached -/
def gW (k : Nat) (y : Int) (z : List (Int × Bool) × List Edge × Unit) : Option (List (Int × Bool) × List Edge × Unit) :=
  (mlook .i64 false z.1 y).bind fun w => if w then some z else (mput .i64 z.1 y true).bind fun m => (waits_reached_1_c2_self k y z.2.1 m).bind fun r => some (r.2, r.1, ())
theorem walk_succ (k : Nat) (hk : 202 ≤ k) (l : List Edge) (hl : l.length ≤ 200) (t : Int) (m : List (Int × Bool)) : waits_reached_1_c2_self (k + 1) t l m = (goE (gW k) t l (m, l, ())).map fun z => (z.2.1, z.1) := by
  show waits_reached_1_c2_self_b k _ t l m = _
  unfold waits_reached_1_c2_self_b
  simp only [waits_next, Option.bind_some]
  rw [next0 k l hl hk t (gW k) _ ?_ (m, l, ())]
  · cases goE (gW k) t l (m, l, ()) with
    | none => rfl
    | some z => rfl
  · intro y z
    unfold gW
    cases mlook .i64 false z.1 y.1 with
    | none => rfl
    | some w =>
      cases w with
      | true => rfl
      | false =>
        simp only [Option.bind_some, jn, Bool.not_false, cond_true, Bool.false_eq_true, if_false]
        cases mput .i64 z.1 y.1 true with
        | none => rfl
        | some m1 =>
          simp only [Option.bind_some]
          show (waits_reached_1_c2_self k y.1 z.2.1 m1).bind _ = _
          cases waits_reached_1_c2_self k y.1 z.2.1 m1 with
          | none => rfl
          | some r => rfl
def AllT (m : List (Int × Bool)) : Prop := ∀ p ∈ m, p.2 = true
theorem mget_allT {x : Int} : ∀ {m : List (Int × Bool)}, AllT m → mget false m x = mhas m x
  | [], _ => rfl
  | (k, v) :: m, h => by
    have hv : v = true := h _ (List.mem_cons_self ..)
    have ih := mget_allT (x := x) (m := m) fun p hp => h p (List.mem_cons_of_mem _ hp)
    subst hv
    by_cases hk : k = x
    · simp [mget, mhas, hk]
    · simp only [mget, mhas, List.any_cons, decide_eq_false hk, Bool.false_or]
      exact ih
theorem look_allT {m : List (Int × Bool)} (h : AllT m) {x : Int} (hx : keyIn .i64 x = true) : mlook .i64 false m x = some (mhas m x) := by
  unfold mlook
  rw [hx, ← mget_allT h]
structure MetI (ns : List Int) (m : List (Int × Bool)) : Prop where
  all : AllT m
  sub : ∀ x, mhas m x = true → x ∈ ns
  len : m.length + unmet ns (mhas m) ≤ 8
structure Walked (l : List Edge) (ns : List Int) (s : Int → Prop) (way : Int → Prop) (m m' : List (Int × Bool)) : Prop where
  inv : MetI ns m'
  mono : ∀ x, mhas m x = true → mhas m' x = true
  less : unmet ns (mhas m') ≤ unmet ns (mhas m)
  new : ∀ x, mhas m' x = true → mhas m x = true ∨ way x
  succ : ∀ c, s c → mhas m' c = true
  closed : ∀ x, mhas m' x = true → mhas m x = false → ∀ c, eR l x c → mhas m' c = true
theorem walk_ok {l : List Edge} {ns : List Int} (hg : GoodE l ns) : ∀ d n t m, unmet ns (mhas m) < d → d + 203 ≤ n → MetI ns m → ∃ m', waits_reached_1_c2_self n t l m = some (l, m') ∧ Walked l ns (eR l t) (Wy (eR l) t) m m' := by
  intro d
  induction d with
  | zero => intro n t m h; omega
  | succ d ih =>
    intro n t m hu hn hm
    obtain ⟨k, rfl⟩ : ∃ k, n = k + 1 := ⟨n - 1, by omega⟩
    have inner : ∀ q : List Edge, (∀ e ∈ q, e ∈ l) → ∀ m1, MetI ns m1 → unmet ns (mhas m1) ≤ d → ∃ m2, goE (gW k) t q (m1, l, ()) = some (m2, l, ()) ∧ Walked l ns (fun c => Edge.mk t c ∈ q) (Wy (eR l) t) m1 m2 := by
      intro q
      induction q with
      | nil => intro _ m1 h1 _; exact ⟨m1, rfl, h1, fun _ h => h, Nat.le_refl _, fun _ h => .inl h, fun c h => (by cases h), fun x h1 h2 => by rw [h1] at h2; cases h2⟩
      | cons e q ihq =>
        intro hq m1 h1 hu1
        have hel := hq e (List.mem_cons_self ..)
        have hq' : ∀ e ∈ q, e ∈ l := fun e he => hq e (List.mem_cons_of_mem _ he)
        by_cases he : e.from_ = t
        · have hmk : Edge.mk t e.to = e := by rw [← he]
          have hc := (hg.ends e hel).2
          simp only [goE, if_pos he]
          unfold gW
          simp only [look_allT h1.all (hg.key _ hc), Option.bind_some]
          cases hh : mhas m1 e.to with
          | true =>
            simp only [if_true, Option.bind_some]
            obtain ⟨m2, e2, w2⟩ := ihq hq' m1 h1 hu1
            refine ⟨m2, e2, w2.inv, w2.mono, w2.less, w2.new, fun c hc2 => ?_, w2.closed⟩
            rcases List.mem_cons.1 hc2 with hc2 | hc2
            · rw [show c = e.to by rw [← hc2]]; exact w2.mono _ hh
            · exact w2.succ c hc2
          | false =>
            have hq1 : ∀ x, mhas ((e.to, true) :: m1) x = (mhas m1 x || decide (x = e.to)) := fun x => by
              simp only [mhas, List.any_cons]
              rw [Bool.or_comm]
              congr 1
              exact decide_eq_decide.2 ⟨Eq.symm, Eq.symm⟩
            have hless := unmet_less hg.nd hc hh hq1
            have hm1 : MetI ns ((e.to, true) :: m1) := by
              refine ⟨fun p hp => ?_, fun x hx => ?_, ?_⟩
              · rcases List.mem_cons.1 hp with rfl | hp
                · rfl
                · exact h1.all p hp
              · rw [hq1, Bool.or_eq_true, decide_eq_true_iff] at hx
                rcases hx with hx | rfl
                · exact h1.sub x hx
                · exact hc
              · have := h1.len; simp only [List.length_cons]; omega
            obtain ⟨m3, e3, w3⟩ := ih k e.to ((e.to, true) :: m1) (by omega) (by omega) hm1
            simp only [Bool.false_eq_true, if_false, mput_ok (hg.key _ hc) (show m1.length ≤ 1000000 by have := h1.len; omega), Option.bind_some, e3]
            have hl3 := w3.less
            obtain ⟨m2, e2, w2⟩ := ihq hq' m3 w3.inv (by omega)
            have mono1 : ∀ x, mhas m1 x = true → mhas m3 x = true := fun x hx => w3.mono x (by rw [hq1, hx]; rfl)
            have hto : mhas m3 e.to = true := w3.mono _ (by rw [hq1]; simp)
            have hedge : eR l t e.to := by show Edge.mk t e.to ∈ l; rw [hmk]; exact hel
            refine ⟨m2, e2, w2.inv, fun x hx => w2.mono x (mono1 x hx), by have := w2.less; omega, fun x hx => ?_, fun c hc2 => ?_, fun x hx hx1 c hxc => ?_⟩
            · rcases w2.new x hx with hx | hx
              · rcases w3.new x hx with hx | hx
                · rw [hq1, Bool.or_eq_true, decide_eq_true_iff] at hx
                  rcases hx with hx | rfl
                  · exact .inl hx
                  · exact .inr (.one hedge)
                · exact .inr (.step hedge hx)
              · exact .inr hx
            · rcases List.mem_cons.1 hc2 with hc2 | hc2
              · rw [show c = e.to by rw [← hc2]]; exact w2.mono _ hto
              · exact w2.succ c hc2
            · cases h3 : mhas m3 x with
              | false => exact w2.closed x hx h3 c hxc
              | true =>
                by_cases hxe : x = e.to
                · subst hxe; exact w2.mono _ (w3.succ c hxc)
                · exact w2.mono _ (w3.closed x h3 (by rw [hq1, hx1, decide_eq_false hxe]; rfl) c hxc)
        · simp only [goE, if_neg he]
          obtain ⟨m2, e2, w2⟩ := ihq hq' m1 h1 hu1
          refine ⟨m2, e2, w2.inv, w2.mono, w2.less, w2.new, fun c hc2 => ?_, w2.closed⟩
          rcases List.mem_cons.1 hc2 with hc2 | hc2
          · exact absurd (by rw [← hc2]) he
          · exact w2.succ c hc2
    obtain ⟨m', e1, w⟩ := inner l (fun _ h => h) m hm (by omega)
    exact ⟨m', by rw [walk_succ k (by omega) l hg.len, e1]; rfl, w⟩
theorem unmet_le {ns : List Int} {p : Int → Bool} : unmet ns p ≤ ns.length := List.length_filter_le _ _
structure ReachM (l : List Edge) (a : Int) (m : List (Int × Bool)) : Prop where
  all : AllT m
  iff : ∀ x, mhas m x = true ↔ Wy (eR l) a x
  len : m.length ≤ 8
theorem reached_ok {l : List Edge} {ns : List Int} (hg : GoodE l ns) (n : Nat) (hn : 1003 ≤ n) (a : Int) : ∃ m, waits_reached n l a = some m ∧ ReachM l a m := by
  have h0 : MetI ns [] := ⟨fun p hp => (by cases hp), fun x hx => by simp [mhas] at hx, by have := unmet_le (ns := ns) (p := mhas ([] : List (Int × Bool))); have := hg.len8; simp only [List.length_nil]; omega⟩
  obtain ⟨m, e, w⟩ := walk_ok hg 9 n a [] (by have := h0.len; simp only [List.length_nil] at this; omega) (by omega) h0
  refine ⟨m, by unfold waits_reached; rw [e]; rfl, w.inv.all, fun x => ⟨fun hx => ?_, fun hx => ?_⟩, by have := w.inv.len; omega⟩
  · rcases w.new x hx with h | h
    · simp [mhas] at h
    · exact h
  · exact hx.closed w.succ fun y c hy hyc => w.closed y hy (by simp [mhas]) c hyc

/-! ### bound, victim -/
theorem way_names {l : List Edge} {a b : Int} (h : Wy (eR l) a b) : a ∈ names l ∧ b ∈ names l := by
  constructor
  · obtain ⟨c, h, _⟩ := h.first
    exact mem_names.2 ⟨_, h, .inl rfl⟩
  · obtain ⟨c, h⟩ := h.last
    exact mem_names.2 ⟨_, h, .inr rfl⟩
open Classical in
noncomputable def bnd (l : List Edge) (t : Int) : List Int := (names l).filter fun x => decide (Wy (eR l) t x ∧ Wy (eR l) x t)
open Classical in
theorem mem_bnd {l : List Edge} {t x : Int} : x ∈ bnd l t ↔ Wy (eR l) t x ∧ Wy (eR l) x t := by
  unfold bnd
  rw [List.mem_filter, decide_eq_true_iff]
  exact ⟨fun h => h.2, fun h => ⟨(way_names h.1).2, h⟩⟩
theorem up_bnd {l : List Edge} {t : Int} : (bnd l t).Pairwise (· < ·) := up_names.filter _
theorem bnd_len {l : List Edge} {ns : List Int} (hg : GoodE l ns) {t : Int} : (bnd l t).length ≤ 8 := Nat.le_trans (List.length_filter_le _ _) (hg.names.len8)
theorem sort_eq (n : Nat) (l : List Int) (h : l.length ≤ 1000) : slices_Sort_int n l = some (sortZ l) := by
  unfold slices_Sort_int
  rw [Nat.ble_eq_true_of_le (by omega)]
open Classical in
theorem bound_loop {l : List Edge} {ns : List Int} (hg : GoodE l ns) (n : Nat) (hn : 1003 ≤ n) {t : Int} (ht : keyIn .i64 t = true) (m : List (Int × Bool)) : ∀ k (ks acc : List Int), (acc ++ ks).Nodup → acc.length + ks.length ≤ 8 → ks.length < k →
    waits_bound_l1 n k (l, t, acc, m, ks, ()) = some (sortZ (acc ++ ks.filter fun x => decide (Wy (eR l) x t))) := by
  intro k
  induction k with
  | zero => intro ks acc _ _ h; omega
  | succ k ih =>
    intro ks acc hnd hlen hk
    unfold waits_bound_l1
    simp only [loopF]
    refine pickK_all (fun h => ?_) fun y hy => ?_
    · subst h
      simp only [sort_eq n acc (by omega), Option.bind_some, List.filter_nil, List.append_nil]
    · obtain ⟨my, e1, w⟩ := reached_ok hg n hn y
      simp only [e1, Option.bind_some, look_allT w.all ht, jn, waits_bound_j2]
      obtain ⟨n1, n2, n3⟩ := List.nodup_append.1 hnd
      have hfl := strike_len (x := y) n2
      rw [if_pos hy] at hfl
      have hmem : ∀ x, x ∈ ks.filter (fun z => !decide (z = y)) ↔ x ∈ ks ∧ x ≠ y := fun x => by simp [List.mem_filter]
      have hsub : ∀ acc', (∀ x ∈ acc', x ∈ acc ∨ x = y) → acc'.Nodup → acc'.length ≤ acc.length + 1 → (∀ x, (x ∈ acc' ∨ (x ∈ ks ∧ x ≠ y) ∧ Wy (eR l) x t) ↔ (x ∈ acc ∨ x ∈ ks ∧ Wy (eR l) x t)) →
          waits_bound_l1 n k (l, t, acc', m, ks.filter (fun z => !decide (z = y)), ()) = some (sortZ (acc ++ ks.filter fun x => decide (Wy (eR l) x t))) := by
        intro acc' hs hnd' hlen' hiff
        have h1 : (acc' ++ ks.filter fun z => !decide (z = y)).Nodup := List.nodup_append.2 ⟨hnd', n2.filter _, fun a ha b hb e => by
          subst e
          obtain ⟨hb1, hb2⟩ := (hmem a).1 hb
          rcases hs a ha with h | h
          · exact n3 a h a hb1 rfl
          · exact hb2 h⟩
        rw [ih _ acc' h1 (by omega) (by omega)]
        congr 1
        refine sortZ_ext ?_ ?_ fun x => ?_
        · exact List.Sublist.nodup (List.Sublist.append (List.Sublist.refl _) (List.filter_sublist ..)) h1
        · exact List.Sublist.nodup (List.Sublist.append (List.Sublist.refl _) (List.filter_sublist ..)) hnd
        · rw [List.mem_append, List.mem_append, List.mem_filter, hmem, List.mem_filter, decide_eq_true_iff]
          exact hiff x
      have hstep : ∀ acc' : List Int, (loopF _ k (l, t, acc', m, ks.filter (fun z => !decide (z = y)), ()) = waits_bound_l1 n k (l, t, acc', m, ks.filter (fun z => !decide (z = y)), ())) := fun _ => rfl
      cases hh : mhas my t with
      | true =>
        have hw := (w.iff t).1 hh
        simp only [cond_true, app_lt (show acc.length + [y].length ≤ 1000000 by simp; omega) (show 8 ≤ 1000 by omega), Option.bind_some]
        refine (hstep _).trans (hsub (acc ++ [y]) (fun x hx => by simpa using hx) ?_ (by simp) fun x => ?_)
        · exact List.nodup_append.2 ⟨n1, by simp, fun a ha b hb e => by
            rw [List.mem_singleton] at hb
            subst e hb
            exact n3 a ha a hy rfl⟩
        · simp only [List.mem_append, List.mem_singleton]
          constructor
          · rintro ((h | rfl) | ⟨⟨h, _⟩, h2⟩)
            · exact .inl h
            · exact .inr ⟨hy, hw⟩
            · exact .inr ⟨h, h2⟩
          · rintro (h | ⟨h, h2⟩)
            · exact .inl (.inl h)
            · by_cases e : x = y
              · exact .inl (.inr e)
              · exact .inr ⟨⟨h, e⟩, h2⟩
      | false =>
        have hw : ¬ Wy (eR l) y t := fun h => by have := (w.iff t).2 h; rw [hh] at this; cases this
        simp only [cond_false]
        refine (hstep _).trans (hsub acc (fun x hx => .inl hx) n1 (by omega) fun x => ?_)
        constructor
        · rintro (h | ⟨⟨h, _⟩, h2⟩)
          · exact .inl h
          · exact .inr ⟨h, h2⟩
        · rintro (h | ⟨h, h2⟩)
          · exact .inl h
          · exact .inr ⟨⟨h, fun e => hw (e ▸ h2)⟩, h2⟩
open Classical in
theorem bound_eq {l : List Edge} {ns : List Int} (hg : GoodE l ns) (n : Nat) (hn : 1003 ≤ n) {t : Int} (ht : keyIn .i64 t = true) : waits_bound n l t = some (bnd l t) := by
  obtain ⟨m, e, w⟩ := reached_ok hg n hn t
  unfold waits_bound
  have hl := mkeys_le (m := m)
  have := w.len
  rw [e, Option.bind_some, bound_loop hg n hn ht m n (mkeys m) [] (by simpa using mkeys_nodup) (by simp only [List.length_nil]; omega) (by omega)]
  congr 1
  refine up_ext (sortZ_up ?_) up_bnd fun x => ?_
  · rw [List.nil_append]; exact mkeys_nodup.filter _
  · rw [mem_sortZ, List.nil_append, List.mem_filter, mem_mkeys, w.iff, decide_eq_true_iff, mem_bnd]
def lastZ (b : List Int) : Int := b.getLast?.getD 0
theorem last_idx {b : List Int} (h : 0 < b.length) (hl : b.length ≤ 1000) : idx b (IntKind.wrap .i64 ((b.length : Int) - 1)) = some (lastZ b) := by
  obtain ⟨k, hk⟩ : ∃ k, b.length = k + 1 := ⟨b.length - 1, by omega⟩
  rw [hk, wrap_pred (by omega), idx_nat]
  unfold lastZ
  rw [List.getLast?_eq_getElem?, hk, Nat.add_sub_cancel, get_some (by omega)]; rfl
noncomputable def vic (l : List Edge) (t : Int) : Int := lastZ (bnd l t)
theorem victim_eq {l : List Edge} {ns : List Int} (hg : GoodE l ns) (n : Nat) (hn : 1003 ≤ n) {t : Int} (ht : keyIn .i64 t = true) : waits_victim n l t = some (vic l t) := by
  unfold waits_victim vic
  have := bnd_len hg (t := t)
  rw [bound_eq hg n hn ht, Option.bind_some]
  by_cases h : 0 < (bnd l t).length
  · rw [decide_eq_true (by omega), cond_true, last_idx h (by omega)]; rfl
  · rw [decide_eq_false (by omega), cond_false, List.eq_nil_of_length_eq_zero (show (bnd l t).length = 0 by omega)]; rfl

/-! ### The reference -/
theorem inE (n : Nat) (hn : 1003 ≤ n) (l : List Int) (hl : l.length ≤ 500) (x : Int) : ref09_in n l x = some (decide (x ∈ l)) := by
  unfold ref09_in
  show ref09_in_l1 n n (l, x, ((0 : Nat) : Int), ()) = _
  unfold ref09_in_l1
  rw [run_loop l (fun i (_ : Unit) => (l, x, (i : Int), ())) (fun _ y _ => if decide (y = x) then .inl (some true) else .inr ()) (fun _ => some false) ?_ ?_ n 0 () (Nat.zero_le _) (by omega)]
  · rw [List.drop_zero, runL_any]
    have : l.any (fun y => decide (y = x)) = decide (x ∈ l) := by
      rw [Bool.eq_iff_iff, List.any_eq_true, decide_eq_true_iff]
      exact ⟨fun ⟨y, h1, h2⟩ => of_decide_eq_true h2 ▸ h1, fun h => ⟨x, h, decide_eq_true rfl⟩⟩
    rw [this]
    cases decide (x ∈ l) <;> rfl
  · intro r i s y hy hi
    simp only [lt_dec hi, cond_true, idx_nat, hy, Option.bind_some, ibeq, wrap_succ (show i < 4611686018427387904 by omega)]
    cases decide (y = x) <;> rfl
  · intro r s
    simp only [ge_dec (Nat.lt_irrefl _), cond_false]
/-- One pass over all edges. -/
def pass1 (a : Int) (s : List Int) (e : Edge) : List Int := if e.from_ = a ∨ e.from_ ∈ s then insU s e.to else s
def pass (l : List Edge) (a : Int) (s : List Int) : List Int := l.foldl (pass1 a) s
def iterF {α : Type} (f : α → α) : Nat → α → α
  | 0, x => x
  | k + 1, x => iterF f k (f x)
theorem iterF_succ {α : Type} (f : α → α) : ∀ (k : Nat) (x : α), iterF f (k + 1) x = f (iterF f k x)
  | 0, x => rfl
  | k + 1, x => iterF_succ f k (f x)
structure PassI (l : List Edge) (ns : List Int) (a : Int) (s : List Int) : Prop where
  up : s.Pairwise (· < ·)
  sub : ∀ x ∈ s, x ∈ ns
  way : ∀ x ∈ s, Wy (eR l) a x
theorem PassI.len {l : List Edge} {ns : List Int} (hg : GoodE l ns) {a : Int} {s : List Int} (h : PassI l ns a s) : s.length ≤ 8 := Nat.le_trans (nodup_sub_len (up_nodup h.up) h.sub) hg.len8
theorem PassI.step {l : List Edge} {ns : List Int} (hg : GoodE l ns) {a : Int} {s : List Int} (h : PassI l ns a s) {e : Edge} (he : e ∈ l) : PassI l ns a (pass1 a s e) := by
  unfold pass1
  split
  · rename_i hc
    refine ⟨up_insU h.up, fun x hx => ?_, fun x hx => ?_⟩
    · rcases mem_insU.1 hx with hx | rfl
      · exact h.sub x hx
      · exact (hg.ends e he).2
    · rcases mem_insU.1 hx with hx | rfl
      · exact h.way x hx
      · rcases hc with hc | hc
        · exact .one (by show Edge.mk a e.to ∈ l; rw [← hc]; exact he)
        · exact (h.way _ hc).snoc he
  · exact h
theorem PassI.pass {l : List Edge} {ns : List Int} (hg : GoodE l ns) {a : Int} {s : List Int} (h : PassI l ns a s) : PassI l ns a (pass l a s) := foldl_inv h fun _ _ he hs => hs.step hg he
theorem pass1_mono {a : Int} {s : List Int} {e : Edge} {x : Int} (h : x ∈ s) : x ∈ pass1 a s e := by
  unfold pass1
  split
  · exact mem_insU.2 (.inl h)
  · exact h
theorem pass_mono {a x : Int} : ∀ {l : List Edge} {s : List Int}, x ∈ s → x ∈ pass l a s
  | [], _, h => h
  | e :: l, s, h => pass_mono (l := l) (pass1_mono h)
theorem pass_new {a : Int} : ∀ {l : List Edge} {s : List Int} {e : Edge}, e ∈ l → (e.from_ = a ∨ e.from_ ∈ s) → e.to ∈ pass l a s
  | f :: l, s, e, he, hc => by
    rcases List.mem_cons.1 he with rfl | he
    · refine pass_mono (l := l) ?_
      unfold pass1
      rw [if_pos hc]
      exact mem_insU.2 (.inr rfl)
    · exact pass_new (l := l) he (hc.imp id pass1_mono)
def Shut (l : List Edge) (a : Int) (s : List Int) : Prop := ∀ e ∈ l, e.from_ = a ∨ e.from_ ∈ s → e.to ∈ s
theorem insU_in {x : Int} : ∀ {s : List Int}, s.Pairwise (· < ·) → x ∈ s → insU s x = s := fun {s} h hx => up_ext (up_insU h) h fun y => by
  rw [mem_insU]
  exact ⟨fun h => h.elim id fun e => e ▸ hx, .inl⟩
theorem pass_shut {a : Int} {s : List Int} (hu : s.Pairwise (· < ·)) : ∀ {l : List Edge}, Shut l a s → pass l a s = s
  | [], _ => rfl
  | e :: l, h => by
    show pass l a (pass1 a s e) = s
    have : pass1 a s e = s := by
      unfold pass1
      split
      · rename_i hc; exact insU_in hu (h e (List.mem_cons_self ..) hc)
      · rfl
    rw [this]
    exact pass_shut hu fun f hf => h f (List.mem_cons_of_mem _ hf)
theorem iter_pass {l : List Edge} {ns : List Int} (hg : GoodE l ns) {a : Int} : ∀ k, PassI l ns a (iterF (pass l a) k []) ∧ (Shut l a (iterF (pass l a) k []) ∨ k ≤ (iterF (pass l a) k []).length)
  | 0 => ⟨⟨.nil, fun x h => (by cases h), fun x h => by cases h⟩, .inr (Nat.zero_le _)⟩
  | k + 1 => by
    obtain ⟨h1, h2⟩ := iter_pass hg (a := a) k
    rw [iterF_succ]
    generalize iterF (pass l a) k [] = s at h1 h2
    refine ⟨h1.pass hg, ?_⟩
    by_cases hs : Shut l a s
    · rw [pass_shut h1.up hs]; exact .inl hs
    · right
      have hex : ∃ e ∈ l, (e.from_ = a ∨ e.from_ ∈ s) ∧ e.to ∉ s := Classical.byContradiction fun hn => hs fun e he hc => Classical.byContradiction fun hx => hn ⟨e, he, hc, hx⟩
      obtain ⟨e, he, hc, hx⟩ := hex
      have := nodup_sub_len (l := e.to :: s) (m := pass l a s) (List.nodup_cons.2 ⟨hx, up_nodup h1.up⟩) fun y hy => by
        rcases List.mem_cons.1 hy with rfl | hy
        · exact pass_new he hc
        · exact pass_mono hy
      simp only [List.length_cons] at this
      rcases h2 with h2 | h2
      · exact absurd h2 hs
      · omega
open Classical in
noncomputable def rch (l : List Edge) (a : Int) : List Int := (names l).filter fun x => decide (Wy (eR l) a x)
open Classical in
theorem mem_rch {l : List Edge} {a x : Int} : x ∈ rch l a ↔ Wy (eR l) a x := by
  unfold rch
  rw [List.mem_filter, decide_eq_true_iff]
  exact ⟨fun h => h.2, fun h => ⟨(way_names h).2, h⟩⟩
theorem up_rch {l : List Edge} {t : Int} : (rch l t).Pairwise (· < ·) := up_names.filter _
theorem rch_len {l : List Edge} {ns : List Int} (hg : GoodE l ns) {t : Int} : (rch l t).length ≤ 8 := Nat.le_trans (List.length_filter_le _ _) (hg.names.len8)
theorem iter9 {l : List Edge} {ns : List Int} (hg : GoodE l ns) {a : Int} : iterF (pass l a) 9 [] = rch l a := by
  obtain ⟨h1, h2⟩ := iter_pass hg (a := a) 9
  have h3 := h1.len hg
  have hs : Shut l a (iterF (pass l a) 9 []) := h2.elim id fun h => by omega
  refine up_ext h1.up up_rch fun x => ?_
  rw [mem_rch]
  exact ⟨h1.way x, fun h => h.closed (fun c hc => hs _ hc (.inl rfl)) fun y c hy hc => hs _ hc (.inr hy)⟩
theorem reachE {l : List Edge} {ns : List Int} (hg : GoodE l ns) (n : Nat) (hn : 1003 ≤ n) (a : Int) : ref09_Reach n l a = some (rch l a) := by
  unfold ref09_Reach
  have inner : ∀ (r1 : (List Edge) × Int × Int × (List Int) × Unit → Option ((List Int))) (k : Int) (s : List Int), PassI l ns a s → ref09_Reach_l2 n r1 n (l, a, k, 0, s, ()) = r1 (l, a, IntKind.wrap .i64 (k + 1), pass l a s, ()) := by
    intro r1 k s hs
    have hlen := hg.len
    show ref09_Reach_l2 n r1 n (l, a, k, ((0 : Nat) : Int), s, ()) = _
    unfold ref09_Reach_l2
    rw [run_loopI l (fun i s => (l, a, k, (i : Int), s, ())) (fun _ e s => .inr (pass1 a s e)) (fun s => r1 (l, a, IntKind.wrap .i64 (k + 1), s, ())) (fun _ s => PassI l ns a s) ?_ ?_ ?_ n 0 s (Nat.zero_le _) (by omega) hs]
    · rw [List.drop_zero, runL_fold]; rfl
    · intro i s x s' hx hI h
      cases h
      exact hI.step hg (List.mem_of_getElem? hx)
    · intro r i s x hx hi hI
      have := hI.len hg
      simp only [lt_dec hi, cond_true, idx_nat, hx, Option.bind_some, jn, ref09_Reach_j3, ibeq, inE n hn s (by omega), withN n hn s (by omega) hI.up, wrap_succ (show i < 4611686018427387904 by omega)]
      unfold pass1
      by_cases h1 : x.from_ = a
      · rw [decide_eq_true h1, if_pos (.inl h1)]; rfl
      · rw [decide_eq_false h1]
        simp only [cond_false]
        by_cases h2 : x.from_ ∈ s
        · rw [decide_eq_true h2, if_pos (.inr h2)]; rfl
        · rw [decide_eq_false h2, if_neg (fun h => h.elim h1 h2)]; rfl
    · intro r s hI
      simp only [ge_dec (Nat.lt_irrefl _), cond_false]
  have outer : ∀ (j : Nat) (m k : Nat) (s : List Int), k + j = 9 → j < m → PassI l ns a s → ref09_Reach_l1 n m (l, a, (k : Int), s, ()) = some (iterF (pass l a) j s) := by
    intro j
    induction j with
    | zero =>
      intro m k s hk hm hs
      obtain ⟨m, rfl⟩ : ∃ m', m = m' + 1 := ⟨m - 1, by omega⟩
      unfold ref09_Reach_l1
      simp only [loopF]
      rw [decide_eq_false (by omega)]; rfl
    | succ j ih =>
      intro m k s hk hm hs
      obtain ⟨m, rfl⟩ : ∃ m', m = m' + 1 := ⟨m - 1, by omega⟩
      unfold ref09_Reach_l1
      simp only [loopF]
      rw [decide_eq_true (by omega), cond_true, inner _ _ _ hs, wrap_succ (by omega)]
      exact ih m (k + 1) (pass l a s) (by omega) (by omega) (hs.pass hg)
  rw [← iter9 hg]
  exact outer 9 n 0 [] rfl (by omega) ⟨.nil, fun x h => (by cases h), fun x h => by cases h⟩
theorem rboundE {l : List Edge} {ns : List Int} (hg : GoodE l ns) (n : Nat) (hn : 1003 ≤ n) (t : Int) : ref09_Bound n l t = some (bnd l t) := by
  unfold ref09_Bound
  have hlen := rch_len hg (t := t)
  rw [reachE hg n hn, Option.bind_some]
  show ref09_Bound_l1 n n (l, t, ((0 : Nat) : Int), [], rch l t, ()) = _
  unfold ref09_Bound_l1
  rw [run_loopI (rch l t) (fun i (s : List Int) => (l, t, (i : Int), s, rch l t, ())) (fun _ x s => .inr (if decide (t ∈ rch l x) then s ++ [x] else s)) (fun s => some s) (fun i s => s.length ≤ i) ?_ ?_ ?_ n 0 [] (Nat.zero_le _) (by omega) (Nat.le_refl _)]
  · rw [List.drop_zero, runL_filter, List.nil_append]
    congr 1
    refine up_ext (up_rch.filter _) up_bnd fun x => ?_
    rw [List.mem_filter, mem_rch, decide_eq_true_iff, mem_rch, mem_bnd]
  · intro i s x s' hx hI h
    cases h
    split
    · simp; omega
    · omega
  · intro r i s x hx hi hI
    have := rch_len hg (t := x)
    simp only [lt_dec hi, cond_true, idx_nat, hx, Option.bind_some, jn, ref09_Bound_j2, reachE hg n hn, inE n hn (rch l x) (by omega), wrap_succ (show i < 4611686018427387904 by omega)]
    cases decide (t ∈ rch l x) with
    | true => simp only [cond_true, app_lt (show s.length + [x].length ≤ 1000000 by simp; omega) (show 8 ≤ 1000 by omega), Option.bind_some, if_true]
    | false => simp only [cond_false, Bool.false_eq_true, if_false]
  · intro r s hI
    simp only [ge_dec (Nat.lt_irrefl _), cond_false]
theorem rvictimE {l : List Edge} {ns : List Int} (hg : GoodE l ns) (n : Nat) (hn : 1003 ≤ n) (t : Int) : ref09_Victim n l t = some (vic l t) := by
  unfold ref09_Victim vic
  have := bnd_len hg (t := t)
  rw [rboundE hg n hn, Option.bind_some]
  by_cases h : 0 < (bnd l t).length
  · rw [ibeq, decide_eq_false (by omega), cond_false, last_idx h (by omega)]; rfl
  · rw [ibeq, decide_eq_true (by omega), cond_true, List.eq_nil_of_length_eq_zero (show (bnd l t).length = 0 by omega)]; rfl
end Go.Proofs.Ytkfemopgfjooeaa

/- Layer 9 (waits): edges taken away, cycles broken, circles, ways. -/
namespace Go.Proofs.Ytkfemopgfjooeaa
open Go.Bur
set_option linter.unusedSimpArgs false
set_option linter.unusedVariables false
set_option maxRecDepth 100000

/-! ### Edges without one's -/
def hasE (v : Int) (e : Edge) : Bool := decide (e.from_ = v ∨ e.to = v)
def wo (l : List Edge) (v : Int) : List Edge := l.filter fun e => !hasE v e
theorem cloneE (n : Nat) (l : List Edge) (hl : l.length ≤ 1000) : slices_Clone_Edge n l = some l := clone_eq (by omega) (by omega)
theorem cloneI (n : Nat) (l : List Int) (hl : l.length ≤ 1000) : slices_Clone_int n l = some l := clone_eq (by omega) (by omega)
theorem without1E (n : Nat) (e : Edge) (v : Int) : waits_without_1 n e v = some (hasE v e) := by
  unfold waits_without_1 hasE
  simp only [jn, ibeq]
  by_cases h1 : e.from_ = v
  · simp [h1]
  · by_cases h2 : e.to = v <;> simp [h1, h2]
theorem indexD (n : Nat) (hn : 1003 ≤ n) (l : List Edge) (hl : l.length ≤ 500) (v : Int) : slices_IndexFunc_Edge_f55 n l v = some (match l.findIdx? (hasE v) with | some j => (j : Int) | none => -1) := by
  unfold slices_IndexFunc_Edge_f55
  show slices_IndexFunc_Edge_f55_l1 n n (l, v, (l.length : Int), ((0 : Nat) : Int), ()) = _
  unfold slices_IndexFunc_Edge_f55_l1
  rw [run_loop l (fun i (_ : Unit) => (l, v, (l.length : Int), (i : Int), ())) (fun i x _ => if hasE v x then .inl (some (i : Int)) else .inr ()) (fun _ => some (-1)) ?_ ?_ n 0 () (Nat.zero_le _) (by omega)]
  · rw [List.drop_zero, runL_find0 (f := fun i => some (i : Int))]
    cases l.findIdx? (hasE v) with
    | none => rfl
    | some j => simp
  · intro r i s x hx hi
    simp only [lt_dec hi, cond_true, idx_nat, hx, Option.bind_some, without1E, wrap_succ (show i < 4611686018427387904 by omega)]
    cases hasE v x <;> rfl
  · intro r s
    simp only [ge_dec (Nat.lt_irrefl _), cond_false]
theorem withoutE (n : Nat) (hn : 1003 ≤ n) (l : List Edge) (hl : l.length ≤ 500) (v : Int) : waits_without n l v = some (wo l v) := by
  unfold waits_without slices_DeleteFunc_Edge_f55
  rw [cloneE n l (by omega), Option.bind_some, indexD n hn l hl, Option.bind_some]
  exact bindE (delF_eq (p := hasE v) (l := l) (fun x _ => without1E n x v) (by omega))
theorem rwithoutE (n : Nat) (hn : 1003 ≤ n) (l : List Edge) (hl : l.length ≤ 500) (v : Int) : ref09_Without n l v = some (wo l v) := by
  unfold ref09_Without
  show ref09_Without_l1 n n (l, v, ((0 : Nat) : Int), [], ()) = _
  unfold ref09_Without_l1
  rw [run_loopI l (fun i (s : List Edge) => (l, v, (i : Int), s, ())) (fun _ x s => .inr (if !hasE v x then s ++ [x] else s)) (fun s => some s) (fun i s => s.length ≤ i) ?_ ?_ ?_ n 0 [] (Nat.zero_le _) (by omega) (Nat.le_refl _)]
  · rw [List.drop_zero, runL_filter (p := fun x => !hasE v x), List.nil_append]; rfl
  · intro i s x s' hx hI h
    cases h
    split
    · simp; omega
    · omega
  · intro r i s x hx hi hI
    simp only [lt_dec hi, cond_true, idx_nat, hx, Option.bind_some, jn, ref09_Without_j2, ibne, wrap_succ (show i < 4611686018427387904 by omega)]
    unfold hasE
    by_cases h1 : x.from_ = v
    · simp [h1]
    · by_cases h2 : x.to = v
      · simp [h1, h2]
      · simp [h1, h2, app_lt (show s.length + [x].length ≤ 1000000 by simp; omega) (show 16 ≤ 1000 by omega)]
  · intro r s hI
    simp only [ge_dec (Nat.lt_irrefl _), cond_false]
theorem names_wo {l : List Edge} {v : Int} (h : v ∈ names l) : (names (wo l v)).length + 1 ≤ (names l).length := by
  have := nodup_sub_len (l := v :: names (wo l v)) (m := names l) (List.nodup_cons.2 ⟨fun hv => ?_, up_nodup up_names⟩) fun x hx => ?_
  · simpa using this
  · obtain ⟨e, he, hx⟩ := mem_names.1 hv
    have := (List.mem_filter.1 he).2
    rcases hx with hx | hx <;> simp [hasE, hx] at this
  · rcases List.mem_cons.1 hx with rfl | hx
    · exact h
    · obtain ⟨e, he, hx⟩ := mem_names.1 hx
      exact mem_names.2 ⟨e, (List.mem_filter.1 he).1, hx⟩

/-! ### The victim -/
theorem lastZ_mem {b : List Int} (h : b ≠ []) : lastZ b ∈ b := by
  unfold lastZ
  rw [List.getLast?_eq_some_getLast h]
  exact List.getLast_mem h
theorem vic_mem {l : List Edge} {ns : List Int} (hg : GoodE l ns) {t : Int} (h : vic l t ≠ 0) : vic l t ∈ bnd l t := by
  unfold vic at h ⊢
  exact lastZ_mem fun e => h (by rw [e]; rfl)
theorem vic_zero {l : List Edge} {ns : List Int} (hg : GoodE l ns) {t : Int} : vic l t = 0 ↔ bnd l t = [] := by
  constructor
  · intro h
    refine Classical.byContradiction fun hne => ?_
    have h1 : lastZ (bnd l t) ∈ bnd l t := lastZ_mem hne
    have h2 := hg.names.pos _ (way_names (mem_bnd.1 h1).1).2
    unfold vic at h; omega
  · intro h; unfold vic; rw [h]; rfl

/-! ### Break -/
inductive Brk (t : Int) : List Edge → List Int → List Edge → Prop
  | nil {l : List Edge} : vic l t = 0 → Brk t l [] l
  | cons {l r : List Edge} {vs : List Int} : vic l t ≠ 0 → Brk t (wo l (vic l t)) vs r → Brk t l (vic l t :: vs) r
theorem brk_ok {t : Int} (ht : keyIn .i64 t = true) (n : Nat) (hn : 1003 ≤ n) : ∀ j (l : List Edge) (ns : List Int), GoodE l ns → (names l).length ≤ j → ∃ vs r, Brk t l vs r ∧ vs.length ≤ j ∧ GoodE r ns ∧
    (∀ m acc, j < m → acc.length + j ≤ 100 → waits_Break_l1 n m (t, l, acc, ()) = some (0, acc ++ vs, r)) ∧
    (∀ (j1 : (List Edge) × (List Int) × Unit → Option ((List Edge) × (List Int))) m (k : Nat) acc, j < m → j + k ≤ 8 → acc.length + j ≤ 100 → ref09_Break_l2 n j1 m (l, t, (k : Int), acc, ()) = j1 (r, acc ++ vs, ())) := by
  intro j
  induction j with
  | zero =>
    intro l ns hg hj
    have hb : vic l t = 0 := (vic_zero hg).2 (List.eq_nil_iff_forall_not_mem.2 fun x hx => by
      have := (way_names (mem_bnd.1 hx).1).1
      have := List.length_pos_of_mem this
      omega)
    refine ⟨[], l, .nil hb, Nat.le_refl _, hg, fun m acc hm ha => ?_, fun j1 m k acc hm hk ha => ?_⟩
    · obtain ⟨m, rfl⟩ : ∃ m', m = m' + 1 := ⟨m - 1, by omega⟩
      unfold waits_Break_l1
      simp only [loopF, victim_eq hg n hn ht, Option.bind_some, hb, beq_self_eq_true, cond_true, List.append_nil]
    · obtain ⟨m, rfl⟩ : ∃ m', m = m' + 1 := ⟨m - 1, by omega⟩
      unfold ref09_Break_l2
      simp only [loopF]
      rw [decide_eq_true (by omega), cond_true]
      simp only [rvictimE hg n hn, Option.bind_some, hb, beq_self_eq_true, cond_true, List.append_nil]
  | succ j ih =>
    intro l ns hg hj
    by_cases hb : vic l t = 0
    · refine ⟨[], l, .nil hb, Nat.zero_le _, hg, fun m acc hm ha => ?_, fun j1 m k acc hm hk ha => ?_⟩
      · obtain ⟨m, rfl⟩ : ∃ m', m = m' + 1 := ⟨m - 1, by omega⟩
        unfold waits_Break_l1
        simp only [loopF, victim_eq hg n hn ht, Option.bind_some, hb, beq_self_eq_true, cond_true, List.append_nil]
      · obtain ⟨m, rfl⟩ : ∃ m', m = m' + 1 := ⟨m - 1, by omega⟩
        unfold ref09_Break_l2
        simp only [loopF]
        rw [decide_eq_true (by omega), cond_true]
        simp only [rvictimE hg n hn, Option.bind_some, hb, beq_self_eq_true, cond_true, List.append_nil]
    · have hv := names_wo (way_names (mem_bnd.1 (vic_mem hg hb)).1).2
      have hlen := hg.len
      obtain ⟨vs, r, b1, b2, b3, b4, b5⟩ := ih (wo l (vic l t)) ns (hg.filter _) (by omega)
      refine ⟨vic l t :: vs, r, .cons hb b1, by simp; omega, b3, fun m acc hm ha => ?_, fun j1 m k acc hm hk ha => ?_⟩
      · obtain ⟨m, rfl⟩ : ∃ m', m = m' + 1 := ⟨m - 1, by omega⟩
        have hne : (vic l t == 0) = false := by simpa using hb
        unfold waits_Break_l1
        simp only [loopF, victim_eq hg n hn ht, Option.bind_some, hne, cond_false, app_lt (show acc.length + [vic l t].length ≤ 1000000 by simp; omega) (show 8 ≤ 1000 by omega), withoutE n hn l (by omega)]
        refine (b4 m (acc ++ [vic l t]) (by omega) (by simp; omega)).trans ?_
        rw [List.append_assoc]; rfl
      · obtain ⟨m, rfl⟩ : ∃ m', m = m' + 1 := ⟨m - 1, by omega⟩
        have hne : (vic l t == 0) = false := by simpa using hb
        unfold ref09_Break_l2
        simp only [loopF]
        rw [decide_eq_true (by omega), cond_true]
        simp only [rvictimE hg n hn, Option.bind_some, hne, cond_false, app_lt (show acc.length + [vic l t].length ≤ 1000000 by simp; omega) (show 8 ≤ 1000 by omega), rwithoutE n hn l (by omega), wrap_succ (show k < 4611686018427387904 by omega)]
        refine (b5 j1 m (k + 1) (acc ++ [vic l t]) (by omega) (by omega) (by simp; omega)).trans ?_
        rw [List.append_assoc]; rfl
end Go.Proofs.Ytkfemopgfjooeaa

/- Layer 9 (waits): the same edges, the same numbers; circles, and who leads to whom. -/
namespace Go.Proofs.Ytkfemopgfjooeaa
open Go.Bur
set_option linter.unusedSimpArgs false
set_option linter.unusedVariables false
set_option maxRecDepth 100000

/-! ### Circles -/
def Circ (l : List Edge) : Prop := ∃ x, Wy (eR l) x x
theorem circ_iff {l : List Edge} : Circ l ↔ ∃ e ∈ l, Wy (eR l) e.to e.from_ := by
  constructor
  · rintro ⟨x, h⟩
    obtain ⟨c, h1, h2⟩ := h.first
    refine ⟨⟨x, c⟩, h1, ?_⟩
    rcases h2 with rfl | h2
    · exact h
    · exact h2
  · rintro ⟨e, he, h⟩
    exact ⟨e.from_, .step he h⟩
open Classical in
theorem circles1E {l : List Edge} {ns : List Int} (hg : GoodE l ns) (n : Nat) (hn : 1003 ≤ n) (e : Edge) (he : e ∈ l) : waits_Circles_1 n e l = some (decide (Wy (eR l) e.to e.from_)) := by
  obtain ⟨m, e1, w⟩ := reached_ok hg n hn e.to
  unfold waits_Circles_1
  simp only [e1, Option.bind_some, look_allT w.all (hg.key _ (hg.ends e he).1)]
  congr 1
  rw [Bool.eq_iff_iff, w.iff, decide_eq_true_iff]
open Classical in
theorem containsC {l : List Edge} {ns : List Int} (hg : GoodE l ns) (n : Nat) (hn : 1003 ≤ n) : slices_ContainsFunc_Edge_f47 n l l = some (decide (Circ l)) := by
  have hlen := hg.len
  unfold slices_ContainsFunc_Edge_f47
  have h1 : slices_IndexFunc_Edge_f47 n l l = some (match l.findIdx? (fun e => decide (Wy (eR l) e.to e.from_)) with | some j => (j : Int) | none => -1) := by
    unfold slices_IndexFunc_Edge_f47
    show slices_IndexFunc_Edge_f47_l1 n n (l, l, (l.length : Int), ((0 : Nat) : Int), ()) = _
    unfold slices_IndexFunc_Edge_f47_l1
    rw [run_loop l (fun i (_ : Unit) => (l, l, (l.length : Int), (i : Int), ())) (fun i x _ => if decide (Wy (eR l) x.to x.from_) then .inl (some (i : Int)) else .inr ()) (fun _ => some (-1)) ?_ ?_ n 0 () (Nat.zero_le _) (by omega)]
    · rw [List.drop_zero, runL_find0 (f := fun i => some (i : Int))]
      cases l.findIdx? (fun e => decide (Wy (eR l) e.to e.from_)) with
      | none => rfl
      | some j => simp
    · intro r i s x hx hi
      simp only [lt_dec hi, cond_true, idx_nat, hx, Option.bind_some, circles1E hg n hn x (List.mem_of_getElem? hx), wrap_succ (show i < 4611686018427387904 by omega)]
      cases decide (Wy (eR l) x.to x.from_) <;> rfl
    · intro r s
      simp only [ge_dec (Nat.lt_irrefl _), cond_false]
  rw [h1, Option.bind_some]
  congr 1
  rw [Bool.eq_iff_iff, decide_eq_true_iff (p := Circ l), circ_iff]
  cases hf : l.findIdx? (fun e => decide (Wy (eR l) e.to e.from_)) with
  | none =>
    have := List.findIdx?_eq_none_iff.1 hf
    simp only [show ¬ ((-1 : Int) ≥ 0) by omega, decide_false, Bool.false_eq_true, false_iff]
    rintro ⟨e, he, h⟩
    have := this e he
    rw [decide_eq_true h] at this; cases this
  | some j =>
    obtain ⟨hj, h2, _⟩ := List.findIdx?_eq_some_iff_getElem.1 hf
    simp only [show ((j : Int) ≥ 0) by omega, decide_true, true_iff]
    exact ⟨l[j], List.getElem_mem hj, of_decide_eq_true h2⟩
open Classical in
theorem circlesE (n : Nat) (hn : 1003 ≤ n) (l : List Edge) (hl : l.length ≤ 200) (hk : KeysIn l) : waits_Circles n l = some (rightP l && decide (Circ l)) := by
  unfold waits_Circles
  simp only [rightE n hn l (by omega) hk, Option.bind_some, jn]
  cases hr : rightP l with
  | false => rfl
  | true => simp only [cond_true, containsC (right_good hl hk hr) n hn, Option.bind_some, Bool.true_and]
open Classical in
theorem leadsE (n : Nat) (hn : 1003 ≤ n) (l : List Edge) (hl : l.length ≤ 200) (hk : KeysIn l) (a : Int) {b : Int} (hb : keyIn .i64 b = true) : waits_Leads n l a b = some (rightP l && decide (Wy (eR l) a b)) := by
  unfold waits_Leads
  simp only [rightE n hn l (by omega) hk, Option.bind_some, jn]
  cases hr : rightP l with
  | false => rfl
  | true =>
    obtain ⟨m, e1, w⟩ := reached_ok (right_good hl hk hr) n hn a
    simp only [cond_true, e1, Option.bind_some, look_allT w.all hb, Bool.true_and]
    congr 1
    rw [Bool.eq_iff_iff, w.iff, decide_eq_true_iff]

/-! ### What is told -/
theorem boundE (n : Nat) (hn : 1003 ≤ n) (l : List Edge) (hl : l.length ≤ 200) (hk : KeysIn l) {t : Int} (ht : keyIn .i64 t = true) : waits_Bound n l t = some (if rightP l then (0, bnd l t) else (190, [])) := by
  unfold waits_Bound
  rw [rightE n hn l (by omega) hk, Option.bind_some]
  cases hr : rightP l with
  | false => rfl
  | true => simp only [Bool.not_true, cond_false, bound_eq (right_good hl hk hr) n hn ht, Option.bind_some, if_true]
/-- Break, and what the reference says. -/
theorem breakE (n : Nat) (hn : 1003 ≤ n) (l : List Edge) (hl : l.length ≤ 200) (hk : KeysIn l) {t : Int} (ht : keyIn .i64 t = true) :
    (rightP l = false ∧ waits_Break n l t = some (190, [], [])) ∨ rightP l = true ∧ ∃ vs r, Brk t l vs r ∧ vs.length ≤ 8 ∧ GoodE r (names l) ∧ waits_Break n l t = some (0, vs, r) ∧ ref09_Break n l t = some (r, vs) := by
  unfold waits_Break
  rw [rightE n hn l (by omega) hk, Option.bind_some]
  cases hr : rightP l with
  | false => exact .inl ⟨rfl, rfl⟩
  | true =>
    right
    have hg := right_good hl hk hr
    obtain ⟨vs, r, b1, b2, b3, b4, b5⟩ := brk_ok ht n hn 8 l (names l) hg hg.len8
    refine ⟨rfl, vs, r, b1, b2, b3, ?_, ?_⟩
    · simp only [Bool.not_true, cond_false, cloneE n l (by omega), Option.bind_some]
      exact b4 n [] (by omega) (by simp)
    · unfold ref09_Break
      exact b5 _ n 0 [] (by omega) (by omega) (by simp)
end Go.Proofs.Ytkfemopgfjooeaa

/- Layer 9 (waits): all cycles. -/
namespace Go.Proofs.Ytkfemopgfjooeaa
open Go.Bur
set_option linter.unusedSimpArgs false
set_option linter.unusedVariables false
set_option maxRecDepth 100000

/-! ### Numbers' lists in order -/
def lexL : List Int → List Int → Bool
  | [], [] => false
  | [], _ :: _ => true
  | _ :: _, [] => false
  | x :: a, y :: b => decide (x < y) || (decide (x = y) && lexL a b)
theorem lexL_irr : ∀ a : List Int, lexL a a = false
  | [] => rfl
  | x :: a => by simp [lexL, lexL_irr a]
theorem lexL_tr : ∀ {a b c : List Int}, lexL a b = true → lexL b c = true → lexL a c = true
  | [], [], _, h, _ => by cases h
  | [], _ :: _, [], _, h => by cases h
  | [], _ :: _, _ :: _, _, _ => rfl
  | _ :: _, [], _, h, _ => by cases h
  | _ :: _, _ :: _, [], _, h => by cases h
  | x :: a, y :: b, z :: c, h, k => by
    simp only [lexL, Bool.or_eq_true, Bool.and_eq_true, decide_eq_true_iff] at h k ⊢
    rcases h with h | ⟨h, h'⟩ <;> rcases k with k | ⟨k, k'⟩
    · left; omega
    · left; omega
    · left; omega
    · exact .inr ⟨h.trans k, lexL_tr h' k'⟩
theorem lexL_tot : ∀ {a b : List Int}, lexL a b = false → lexL b a = false → a = b
  | [], [], _, _ => rfl
  | [], _ :: _, h, _ => by cases h
  | _ :: _, [], _, h => by cases h
  | x :: a, y :: b, h, k => by
    simp only [lexL, Bool.or_eq_false_iff, Bool.and_eq_false_iff, decide_eq_false_iff_not] at h k
    obtain rfl : x = y := by omega
    rw [lexL_tot (h.2.resolve_left fun e => e rfl) (k.2.resolve_left fun e => e rfl)]
theorem lexL_pre : ∀ (w : List Int) {a b : List Int}, lexL (w ++ a) (w ++ b) = lexL a b
  | [], _, _ => rfl
  | x :: w, a, b => by simp [lexL, lexL_pre w]
def cmpL (a b : List Int) : Int := if lexL a b then -1 else if lexL b a then 1 else 0
theorem cmpL_lt {a b : List Int} : cmpL a b < 0 ↔ lexL a b = true := by
  unfold cmpL
  split
  · rename_i h; simp [h]
  · rename_i h
    split <;> simp [h]
theorem cmpL_cons {x y : Int} {a b : List Int} : cmpL (x :: a) (y :: b) = if cmpI x y ≠ 0 then cmpI x y else cmpL a b := by
  unfold cmpL cmpI
  rcases Int.lt_trichotomy x y with h | h | h
  · simp [lexL, h]
  · subst h
    simp [lexL]
  · simp [lexL, h, show ¬ x < y by omega, show ¬ x = y by omega]
theorem compareL (n : Nat) (a b : List Int) (ha : a.length ≤ 500) (hb : b.length ≤ 500) (hn : 1003 ≤ n) : slices_Compare_int n a b = some (cmpL a b) := by
  unfold slices_Compare_int
  show slices_Compare_int_l1 n n (a, b, a, (a.length : Int), ((0 : Nat) : Int), ()) = _
  have key : ∀ j m i, i + j = a.length → j < m → i ≤ b.length → slices_Compare_int_l1 n m (a, b, a, (a.length : Int), (i : Int), ()) = some (cmpL (a.drop i) (b.drop i)) := by
    intro j
    induction j with
    | zero =>
      intro m i hi hm hib
      obtain ⟨m, rfl⟩ : ∃ m', m = m' + 1 := ⟨m - 1, by omega⟩
      unfold slices_Compare_int_l1
      simp only [loopF]
      rw [decide_eq_false (by omega), cond_false, drop_nil (l := a) (by omega)]
      by_cases hlt : i < b.length
      · rw [decide_eq_true (by omega), drop_cons hlt]; rfl
      · rw [decide_eq_false (by omega), drop_nil (l := b) (by omega)]; rfl
    | succ j ih =>
      intro m i hi hm hib
      obtain ⟨m, rfl⟩ : ∃ m', m = m' + 1 := ⟨m - 1, by omega⟩
      unfold slices_Compare_int_l1
      simp only [loopF]
      rw [decide_eq_true (by omega), cond_true, idx_nat, get_some (show i < a.length by omega), Option.bind_some]
      by_cases hlt : i < b.length
      · rw [decide_eq_false (by omega), cond_false, idx_nat, get_some hlt, Option.bind_some, compare_int, Option.bind_some, drop_cons hlt, drop_cons (show i < a.length by omega), cmpL_cons, ibne]
        by_cases h0 : cmpI a[i] b[i] = 0
        · rw [decide_eq_true h0, if_neg (fun h => h h0), wrap_succ (by omega)]
          exact ih m (i + 1) (by omega) (by omega) (by omega)
        · rw [decide_eq_false h0, if_pos h0]; rfl
      · rw [decide_eq_true (by omega), cond_true, drop_nil (l := b) hlt, drop_cons (show i < a.length by omega)]; rfl
  exact key a.length n 0 (by omega) (by omega) (Nat.zero_le _)

/-! ### Those for whom one waits -/
def succs (l : List Edge) (a : Int) : List Int := (l.filter fun e => decide (e.from_ = a)).map (·.to)
theorem mem_succs {l : List Edge} {a c : Int} : c ∈ succs l a ↔ eR l a c := by
  unfold succs
  rw [List.mem_map]
  constructor
  · rintro ⟨e, he, rfl⟩
    obtain ⟨h1, h2⟩ := List.mem_filter.1 he
    show Edge.mk a e.to ∈ l
    rw [← of_decide_eq_true h2]; exact h1
  · intro h
    exact ⟨⟨a, c⟩, List.mem_filter.2 ⟨h, decide_eq_true rfl⟩, rfl⟩
theorem up_succs {l : List Edge} {ns : List Int} (hg : GoodE l ns) {a : Int} : (succs l a).Pairwise (· < ·) := by
  unfold succs
  rw [List.pairwise_map]
  refine (List.pairwise_filter.2 (hg.srt.imp fun {x y} h => ?_))
  intro hx hy
  have := ltE_iff.1 h
  have := of_decide_eq_true hx
  have := of_decide_eq_true hy
  omega
theorem succs_len {l : List Edge} {ns : List Int} (hg : GoodE l ns) {a : Int} : (succs l a).length ≤ 8 :=
  Nat.le_trans (nodup_sub_len (up_nodup (up_succs hg)) fun c hc => (hg.ends _ (mem_succs.1 hc)).2) hg.len8
def goI {Z : Type} (g : Int → Z → Option Z) : List Int → Z → Option Z
  | [], z => some z
  | y :: q, z => (g y z).bind (goI g q)
theorem goE_goI {Z : Type} {g : Int → Z → Option Z} {t : Int} : ∀ {l : List Edge} {z : Z}, goE g t l z = goI g (succs l t) z
  | [], z => rfl
  | e :: l, z => by
    unfold succs
    by_cases h : e.from_ = t
    · simp only [goE, if_pos h, List.filter_cons, decide_eq_true h, if_true, List.map_cons, goI]
      congr 1
      funext z'
      exact goE_goI
    · simp only [goE, if_neg h, List.filter_cons, decide_eq_false h, Bool.false_eq_true, if_false]
      exact goE_goI

/-! ### All cycles that go on from a way -/
open Classical in
/-- As they are gathered. -/
noncomputable def wys : Nat → List Edge → Int → List Int → List (List Int)
  | 0, _, _, _ => []
  | d + 1, l, t, way => (succs l (lastZ way)).flatMap fun y => if y = t then [way] else if y ∈ way then [] else if Wy (eR l) y t then wys d l t (way ++ [y]) else []
/-- As the document says, in order. -/
def cycP : Nat → List Edge → Int → List Int → List (List Int)
  | 0, _, _, _ => []
  | d + 1, l, t, way => (if t ∈ succs l (lastZ way) then [way] else []) ++ (succs l (lastZ way)).flatMap fun y => if y = t then [] else if y ∈ way then [] else cycP d l t (way ++ [y])
theorem lastZ_snoc {w : List Int} {y : Int} : lastZ (w ++ [y]) = y := by simp [lastZ]
theorem flatMap_le {α β : Type} {f : α → List β} {k : Nat} : ∀ {l : List α}, (∀ x ∈ l, (f x).length ≤ k) → (l.flatMap f).length ≤ l.length * k
  | [], _ => by simp
  | x :: l, h => by
    rw [List.flatMap_cons, List.length_append, List.length_cons, Nat.succ_mul]
    have := h x (List.mem_cons_self ..)
    have := flatMap_le (l := l) fun y hy => h y (List.mem_cons_of_mem _ hy)
    omega
theorem pow_pos9 : ∀ d : Nat, 1 ≤ 9 ^ d
  | 0 => Nat.le_refl _
  | d + 1 => by have := pow_pos9 d; rw [Nat.pow_succ]; omega
open Classical in
theorem wys_len {l : List Edge} {ns : List Int} (hg : GoodE l ns) {t : Int} : ∀ d way, (wys d l t way).length ≤ 9 ^ d
  | 0, way => Nat.zero_le _
  | d + 1, way => by
    have hp := pow_pos9 d
    unfold wys
    have h := flatMap_le (k := 9 ^ d) (l := succs l (lastZ way)) (f := fun y => if y = t then [way] else if y ∈ way then [] else if Wy (eR l) y t then wys d l t (way ++ [y]) else []) fun y _ => by
      split
      · simpa using hp
      · split
        · simp
        · split
          · exact wys_len hg d _
          · simp
    have := Nat.mul_le_mul_right (9 ^ d) (succs_len hg (a := lastZ way))
    rw [Nat.pow_succ]
    refine Nat.le_trans h ?_
    omega
theorem cycP_len {l : List Edge} {ns : List Int} (hg : GoodE l ns) {t : Int} : ∀ d way, (cycP d l t way).length ≤ 9 ^ d
  | 0, way => Nat.zero_le _
  | d + 1, way => by
    have hp := pow_pos9 d
    unfold cycP
    have h := flatMap_le (k := 9 ^ d) (l := succs l (lastZ way)) (f := fun y => if y = t then [] else if y ∈ way then [] else cycP d l t (way ++ [y])) fun y _ => by
      split
      · simp
      · split
        · simp
        · exact cycP_len hg d _
    have h2 := Nat.mul_le_mul_right (9 ^ d) (succs_len hg (a := lastZ way))
    rw [Nat.pow_succ, List.length_append]
    have h3 : (if t ∈ succs l (lastZ way) then [way] else []).length ≤ 1 := by split <;> simp
    omega

/-! ### The walk through the edges -/
theorem next2 (n : Nat) (l : List Edge) (hl : l.length ≤ 200) (hn : 202 ≤ n) (t : Int) (g : Int → _ → Option _) (f) (hf : ∀ y z, f y z = (g y.1 z).map fun z' => (0, z')) (z) : waits_next_1_fyd2 n l t f 0 z = (goI g (succs l t) z).map fun z' => (f, 0, z') := by
  unfold waits_next_1_fyd2
  show waits_next_1_fyd2_l1 n n (t, l, (l.length : Int), ((0 : Nat) : Int), f, 0, z, ()) = _
  unfold waits_next_1_fyd2_l1
  rw [run_loop l (fun i z => (t, l, (l.length : Int), (i : Int), f, 0, z, ())) (fun _ e z => stE g t e z) (fun z => some (f, 0, z)) ?_ ?_ n 0 z (Nat.zero_le _) (by omega)]
  · rw [List.drop_zero, runL_go, goE_goI]
  · intro r i z x hx hi
    simp only [lt_dec hi, cond_true, idx_nat, hx, Option.bind_some, ibeq]
    unfold stE
    by_cases h : x.from_ = t
    · rw [decide_eq_true h, if_pos h]
      simp only [cond_true, callY, hf]
      cases g x.to z with
      | none => rfl
      | some z' => simp only [Option.map_some, Option.bind_some, Nat.beq_refl, Bool.not_true, cond_false, wrap_succ (show i < 4611686018427387904 by omega)]
    · rw [decide_eq_false h, if_neg h]
      simp only [cond_false, wrap_succ (show i < 4611686018427387904 by omega)]
  · intro r z
    simp only [ge_dec (Nat.lt_irrefl _), cond_false]
theorem containsI (n : Nat) (hn : 202 ≤ n) (l : List Int) (hl : l.length ≤ 200) (x : Int) : slices_Contains_int n l x = some (decide (x ∈ l)) := by
  unfold slices_Contains_int
  have h1 : slices_Index_int n l x = some (match l.findIdx? (fun y => decide (x = y)) with | some j => (j : Int) | none => -1) := by
    unfold slices_Index_int
    show slices_Index_int_l1 n n (l, x, (l.length : Int), ((0 : Nat) : Int), ()) = _
    unfold slices_Index_int_l1
    rw [run_loop l (fun i (_ : Unit) => (l, x, (l.length : Int), (i : Int), ())) (fun i y _ => if decide (x = y) then .inl (some (i : Int)) else .inr ()) (fun _ => some (-1)) ?_ ?_ n 0 () (Nat.zero_le _) (by omega)]
    · rw [List.drop_zero, runL_find0 (f := fun i => some (i : Int))]
      cases l.findIdx? (fun y => decide (x = y)) with
      | none => rfl
      | some j => simp
    · intro r i s y hy hi
      simp only [lt_dec hi, cond_true, idx_nat, hy, Option.bind_some, ibeq, wrap_succ (show i < 4611686018427387904 by omega)]
      cases decide (x = y) <;> rfl
    · intro r s
      simp only [ge_dec (Nat.lt_irrefl _), cond_false]
  rw [h1, Option.bind_some]
  congr 1
  rw [Bool.eq_iff_iff, decide_eq_true_iff (p := x ∈ l)]
  cases hf : l.findIdx? (fun y => decide (x = y)) with
  | none =>
    have := List.findIdx?_eq_none_iff.1 hf
    simp only [show ¬ ((-1 : Int) ≥ 0) by omega, decide_false, Bool.false_eq_true, false_iff]
    intro h
    have := this x h
    rw [decide_eq_true rfl] at this; cases this
  | some j =>
    obtain ⟨hj, h2, _⟩ := List.findIdx?_eq_some_iff_getElem.1 hf
    simp only [show ((j : Int) ≥ 0) by omega, decide_true, true_iff]
    rw [of_decide_eq_true h2]
    exact List.getElem_mem hj
/-- The things of a round: edges, the transaction, the way, what is gathered. -/
abbrev ZC := List Edge × Int × List Int × List (List Int) × Unit
noncomputable def gC (k : Nat) (y : Int) (z : ZC) : Option ZC :=
  if y = z.2.1 then (slices_Clone_int k z.2.2.1).bind fun w => (app 24 z.2.2.2.1 [w]).bind fun o => some (z.1, z.2.1, z.2.2.1, o, ())
  else (slices_Contains_int k z.2.2.1 y).bind fun c => if c then some z else (waits_reached k z.1 y).bind fun m => (mlook .i64 false m z.2.1).bind fun w => if w then (slices_Clone_int k z.2.2.1).bind fun v => (app 8 v [y]).bind fun v2 => (waits_Cycles_1_c3_self k v2 z.1 z.2.1 z.2.2.2.1).bind fun r => some (r.1, r.2.1, z.2.2.1, r.2.2, ()) else some z
theorem cyc_succ (k : Nat) (hk : 202 ≤ k) (l : List Edge) (hl : l.length ≤ 200) (t : Int) (way : List Int) (hw : 0 < way.length) (hw2 : way.length ≤ 1000) (out : List (List Int)) : waits_Cycles_1_c3_self (k + 1) way l t out = (goI (gC k) (succs l (lastZ way)) (l, t, way, out, ())).map fun z => (z.1, z.2.1, z.2.2.2.1) := by
  show waits_Cycles_1_c3_self_b k _ way l t out = _
  unfold waits_Cycles_1_c3_self_b
  simp only [waits_next, Option.bind_some, last_idx hw hw2]
  rw [next2 k l hl hk (lastZ way) (gC k) _ ?_ (l, t, way, out, ())]
  · cases goI (gC k) (succs l (lastZ way)) (l, t, way, out, ()) with
    | none => rfl
    | some z => rfl
  · intro y z
    obtain ⟨z1, z2, z3, z4, z5⟩ := z
    obtain ⟨y, y5⟩ := y
    simp only [jn, waits_Cycles_1_c3_self_j1, waits_Cycles_1_c3_self_j2, waits_Cycles_1_c3_self_j3, ibeq]
    unfold gC
    simp only
    by_cases h : y = z2
    · rw [decide_eq_true h, if_pos h]
      simp only [cond_true]
      cases slices_Clone_int k z3 with
      | none => rfl
      | some w =>
        simp only [Option.bind_some]
        cases app 24 z4 [w] <;> rfl
    · rw [decide_eq_false h, if_neg h]
      simp only [cond_false]
      cases slices_Contains_int k z3 y with
      | none => rfl
      | some c =>
        cases c with
        | true => rfl
        | false =>
          simp only [Option.bind_some, Bool.not_false, cond_true, Bool.false_eq_true, if_false]
          cases waits_reached k z1 y with
          | none => rfl
          | some m =>
            simp only [Option.bind_some]
            cases mlook .i64 false m z2 with
            | none => rfl
            | some w =>
              cases w with
              | false => rfl
              | true =>
                simp only [Option.bind_some, cond_true, if_true]
                cases slices_Clone_int k z3 with
                | none => rfl
                | some v =>
                  simp only [Option.bind_some]
                  cases app 8 v [y] with
                  | none => rfl
                  | some v2 =>
                    simp only [Option.bind_some]
                    show (waits_Cycles_1_c3_self k v2 z1 z2 z4).bind _ = _
                    cases waits_Cycles_1_c3_self k v2 z1 z2 z4 <;> rfl
def inW (way : List Int) (x : Int) : Bool := decide (x ∈ way)
theorem inW_snoc {way : List Int} {y x : Int} : inW (way ++ [y]) x = (inW way x || decide (x = y)) := by
  unfold inW
  simp only [List.mem_append, List.mem_singleton, Bool.decide_or]
open Classical in
theorem wcyc_ok {l : List Edge} {ns : List Int} (hg : GoodE l ns) {t : Int} (ht : keyIn .i64 t = true) : ∀ d n way out, unmet ns (inW way) < d → d + 1003 ≤ n → 0 < way.length → way.length + d ≤ 100 → out.length + 9 ^ d ≤ 5000000000000 →
    waits_Cycles_1_c3_self n way l t out = some (l, t, out ++ wys d l t way) := by
  intro d
  induction d with
  | zero => intro n way out h; omega
  | succ d ih =>
    intro n way out hu hn hw hwd ho
    obtain ⟨k, rfl⟩ : ∃ k, n = k + 1 := ⟨n - 1, by omega⟩
    have hp := pow_pos9 d
    have inner : ∀ q : List Int, (∀ y ∈ q, y ∈ ns) → ∀ out, out.length + q.length * 9 ^ d ≤ 5000000000000 →
        goI (gC k) q (l, t, way, out, ()) = some (l, t, way, out ++ q.flatMap (fun y => if y = t then [way] else if y ∈ way then [] else if Wy (eR l) y t then wys d l t (way ++ [y]) else []), ()) := by
      intro q
      induction q with
      | nil => intro _ out _; simp [goI]
      | cons y q ihq =>
        intro hq out ho
        rw [List.length_cons, Nat.succ_mul] at ho
        have hq' : ∀ y ∈ q, y ∈ ns := fun y hy => hq y (List.mem_cons_of_mem _ hy)
        have hy := hq y (List.mem_cons_self ..)
        have fin : ∀ o2 : List (List Int), o2.length ≤ 9 ^ d → gC k y (l, t, way, out, ()) = some (l, t, way, out ++ o2, ()) → (if y = t then [way] else if y ∈ way then [] else if Wy (eR l) y t then wys d l t (way ++ [y]) else []) = o2 →
            goI (gC k) (y :: q) (l, t, way, out, ()) = some (l, t, way, out ++ (y :: q).flatMap (fun y => if y = t then [way] else if y ∈ way then [] else if Wy (eR l) y t then wys d l t (way ++ [y]) else []), ()) := by
          intro o2 h1 h2 h3
          simp only [goI]
          rw [h2, Option.bind_some, ihq hq' (out ++ o2) (by rw [List.length_append]; omega), List.flatMap_cons, h3, List.append_assoc]
        by_cases h1 : y = t
        · refine fin [way] (by simpa using hp) ?_ (if_pos h1)
          unfold gC
          simp only [if_pos h1, cloneI k way (by omega), Option.bind_some, app_ok (show (out.length + [way].length) * 24 ≤ 140737488355328 by simp; omega)]
        · rw [if_neg h1] at fin
          by_cases h2 : y ∈ way
          · refine fin [] (Nat.zero_le _) ?_ (if_pos h2)
            unfold gC
            simp only [if_neg h1, containsI k (by omega) way (by omega), decide_eq_true h2, Option.bind_some, if_true, List.append_nil]
          · rw [if_neg h2] at fin
            obtain ⟨m, e1, w⟩ := reached_ok hg k (by omega) y
            by_cases h3 : Wy (eR l) y t
            · refine fin (wys d l t (way ++ [y])) (wys_len hg d _) ?_ (if_pos h3)
              have hless := unmet_less hg.nd hy (p := inW way) (q := inW (way ++ [y])) (by unfold inW; exact decide_eq_false h2) fun x => inW_snoc
              have hself := ih k (way ++ [y]) out (by omega) (by omega) (by simp) (by simp; omega) (by omega)
              unfold gC
              simp only [if_neg h1, containsI k (by omega) way (by omega), decide_eq_false h2, Option.bind_some, Bool.false_eq_true, if_false, e1, look_allT w.all ht, (w.iff t).2 h3, if_true, cloneI k way (by omega), app_lt (show way.length + [y].length ≤ 1000000 by simp; omega) (show 8 ≤ 1000 by omega), hself]
            · refine fin [] (Nat.zero_le _) ?_ (if_neg h3)
              have hh : mhas m t = false := by
                cases hm : mhas m t with
                | false => rfl
                | true => exact absurd ((w.iff t).1 hm) h3
              unfold gC
              simp only [if_neg h1, containsI k (by omega) way (by omega), decide_eq_false h2, Option.bind_some, Bool.false_eq_true, if_false, e1, look_allT w.all ht, hh, List.append_nil]
    rw [Nat.pow_succ] at ho
    have h8 := Nat.mul_le_mul_right (9 ^ d) (succs_len hg (a := lastZ way))
    rw [cyc_succ k (by omega) l hg.len t way hw (by omega) out, inner _ (fun y hy => (hg.ends _ (mem_succs.1 hy)).2) out (by omega)]
    rfl
end Go.Proofs.Ytkfemopgfjooeaa

/- Layer 9 (waits): all cycles, in order; as the document says. -/
namespace Go.Proofs.Ytkfemopgfjooeaa
open Go.Bur
set_option linter.unusedSimpArgs false
set_option linter.unusedVariables false
set_option maxRecDepth 100000

theorem cyc_way {l : List Edge} {t : Int} : ∀ d way, cycP d l t way ≠ [] → Wy (eR l) (lastZ way) t
  | 0, way, h => absurd rfl h
  | d + 1, way, h => by
    unfold cycP at h
    by_cases hb : t ∈ succs l (lastZ way)
    · exact .one (mem_succs.1 hb)
    · rw [if_neg hb, List.nil_append] at h
      obtain ⟨x, hx⟩ := List.exists_mem_of_ne_nil _ h
      obtain ⟨y, hy, hx⟩ := List.mem_flatMap.1 hx
      split at hx
      · cases hx
      · split at hx
        · cases hx
        · have := cyc_way d (way ++ [y]) (List.ne_nil_of_mem hx)
          rw [lastZ_snoc] at this
          exact .step (mem_succs.1 hy) this
theorem flat_perm {α β : Type} {f g : α → List β} : ∀ {q : List α}, (∀ y ∈ q, (f y).Perm (g y)) → (q.flatMap f).Perm (q.flatMap g)
  | [], _ => .refl _
  | y :: q, h => by
    rw [List.flatMap_cons, List.flatMap_cons]
    exact (h y (List.mem_cons_self ..)).append (flat_perm fun z hz => h z (List.mem_cons_of_mem _ hz))
theorem flat_split {β : Type} {g : Int → List β} {b : List β} {t : Int} : ∀ {q : List Int}, q.Nodup → (q.flatMap fun y => if y = t then b else g y).Perm ((if t ∈ q then b else []) ++ q.flatMap fun y => if y = t then [] else g y)
  | [], _ => by simp
  | y :: q, h => by
    obtain ⟨h1, h2⟩ := List.nodup_cons.1 h
    have ih := flat_split (g := g) (b := b) (t := t) h2
    rw [List.flatMap_cons, List.flatMap_cons]
    by_cases hy : y = t
    · subst hy
      rw [if_pos rfl, if_pos rfl, if_pos (List.mem_cons_self ..), List.nil_append]
      rw [if_neg h1, List.nil_append] at ih
      exact ih.append_left _
    · rw [if_neg hy, if_neg hy]
      have hm : (t ∈ y :: q) ↔ t ∈ q := by rw [List.mem_cons]; exact ⟨fun h => h.resolve_left fun e => hy e.symm, .inr⟩
      have : (if t ∈ y :: q then b else []) = (if t ∈ q then b else []) := by by_cases ht : t ∈ q <;> simp [ht, hm]
      rw [this]
      refine (ih.append_left _).trans ?_
      rw [← List.append_assoc, ← List.append_assoc]
      exact List.perm_append_comm.append_right _
open Classical in
theorem wys_perm {l : List Edge} {ns : List Int} (hg : GoodE l ns) {t : Int} : ∀ d way, (wys d l t way).Perm (cycP d l t way)
  | 0, way => .refl _
  | d + 1, way => by
    unfold wys cycP
    refine (flat_split (up_nodup (up_succs hg))).trans ((flat_perm fun y hy => ?_).append_left _)
    split
    · exact .refl _
    · split
      · exact .refl _
      · split
        · exact wys_perm hg d _
        · rename_i h
          refine List.Perm.of_eq (Eq.symm (Classical.byContradiction fun hn => h ?_))
          have := cyc_way d (way ++ [y]) hn
          rwa [lastZ_snoc] at this
theorem cyc_pre {l : List Edge} {t : Int} : ∀ d way x, x ∈ cycP d l t way → ∃ s, x = way ++ s ∧ s.length ≤ d
  | 0, way, x, h => by cases h
  | d + 1, way, x, h => by
    unfold cycP at h
    rcases List.mem_append.1 h with h | h
    · split at h
      · rw [List.mem_singleton] at h
        exact ⟨[], by rw [h, List.append_nil], Nat.zero_le _⟩
      · cases h
    · obtain ⟨y, hy, hx⟩ := List.mem_flatMap.1 h
      split at hx
      · cases hx
      · split at hx
        · cases hx
        · obtain ⟨s, rfl, hs⟩ := cyc_pre d _ x hx
          exact ⟨y :: s, by simp, by simp; omega⟩
theorem cyc_up {l : List Edge} {ns : List Int} (hg : GoodE l ns) {t : Int} : ∀ d way, (cycP d l t way).Pairwise fun x y => lexL x y = true
  | 0, way => .nil
  | d + 1, way => by
    unfold cycP
    have hin : ∀ y x, x ∈ (if y = t then [] else if y ∈ way then [] else cycP d l t (way ++ [y])) → ∃ s, x = way ++ y :: s := fun y x hx => by
      split at hx
      · cases hx
      · split at hx
        · cases hx
        · obtain ⟨s, rfl, _⟩ := cyc_pre d _ x hx
          exact ⟨s, by simp⟩
    refine List.pairwise_append.2 ⟨by split <;> simp, List.pairwise_flatMap.2 ⟨fun y hy => ?_, (up_succs hg).imp fun {y z} hyz a ha b hb => ?_⟩, fun x hx b hb => ?_⟩
    · split
      · exact .nil
      · split
        · exact .nil
        · exact cyc_up hg d _
    · obtain ⟨s, rfl⟩ := hin y a ha
      obtain ⟨s', rfl⟩ := hin z b hb
      rw [lexL_pre]
      simp [lexL, hyz]
    · split at hx
      · rw [List.mem_singleton] at hx
        subst hx
        obtain ⟨y, _, hb⟩ := List.mem_flatMap.1 hb
        obtain ⟨s, rfl⟩ := hin y b hb
        have := lexL_pre x (a := []) (b := y :: s)
        rwa [List.append_nil] at this
      · cases hx

/-! ### Sorted -/
theorem cmpD_L {n : Nat} (hn : 1003 ≤ n) {a b : List Int} (ha : a.length ≤ 500) (hb : b.length ≤ 500) : cmpD (fun x y => slices_Compare_int n x y) a b = cmpL a b := by
  show (slices_Compare_int n a b).getD 0 = _
  rw [compareL n a b ha hb hn]; rfl
theorem sortC {n : Nat} (hn : 1003 ≤ n) {W C : List (List Int)} (hp : W.Perm C) (hu : C.Pairwise fun x y => lexL x y = true) (hl : ∀ x ∈ C, x.length ≤ 500) (hw : W.length ≤ 4611686018427387903) : slices_SortFunc_Lint_f43 n W = some C := by
  unfold slices_SortFunc_Lint_f43
  rw [Nat.ble_eq_true_of_le hw]
  have hW : ∀ x ∈ W, x.length ≤ 500 := fun x hx => hl x (hp.mem_iff.1 hx)
  refine sortF_eq _ ⟨fun x hx y hy => ⟨_, compareL n x y (hW x hx) (hW y hy) hn⟩, fun x hx => ?_, fun x hx y hy z hz h1 h2 => ?_, fun x hx y hy h1 h2 => ?_⟩ ⟨hp.symm, hu.imp_of_mem fun {x y} hx hy h => ?_⟩
  · rw [cmpD_L hn (hW x hx) (hW x hx), cmpL_lt, lexL_irr]; simp
  · rw [cmpD_L hn (hW _ hx) (hW _ hy), cmpL_lt] at h1
    rw [cmpD_L hn (hW _ hy) (hW _ hz), cmpL_lt] at h2
    rw [cmpD_L hn (hW _ hx) (hW _ hz), cmpL_lt]
    exact lexL_tr h1 h2
  · rw [cmpD_L hn (hW _ hx) (hW _ hy), cmpL_lt] at h1
    rw [cmpD_L hn (hW _ hy) (hW _ hx), cmpL_lt] at h2
    exact lexL_tot (by simpa using h1) (by simpa using h2)
  · rw [cmpD_L hn (hl _ hy) (hl _ hx), cmpL_lt]
    intro h2
    have := lexL_tr h h2
    rw [lexL_irr] at this; cases this
def cyc (l : List Edge) (t : Int) : List (List Int) := cycP 10 l t [t]
theorem cyc_len {l : List Edge} {ns : List Int} (hg : GoodE l ns) {t : Int} : (cyc l t).length ≤ 4000000000 := Nat.le_trans (cycP_len hg 10 [t]) (by decide)
theorem cyc_each {l : List Edge} {t : Int} {x : List Int} (h : x ∈ cyc l t) : ∃ s, x = t :: s ∧ x.length ≤ 11 := by
  obtain ⟨s, rfl, hs⟩ := cyc_pre 10 [t] x h
  exact ⟨s, rfl, by simp; omega⟩
theorem cyclesE (n : Nat) (hn : 2003 ≤ n) (l : List Edge) (hl : l.length ≤ 200) (hk : KeysIn l) {t : Int} (ht : keyIn .i64 t = true) : waits_Cycles n l t = some (if rightP l then (0, cyc l t) else (190, [])) := by
  unfold waits_Cycles
  rw [rightE n (by omega) l (by omega) hk, Option.bind_some]
  cases hr : rightP l with
  | false => rfl
  | true =>
    have hg := right_good hl hk hr
    have hu : unmet (names l) (inW [t]) < 10 := by have := unmet_le (ns := names l) (p := inW [t]); have := hg.len8; omega
    have hwl := wys_len hg (t := t) 10 [t]
    have h910 : 9 ^ 10 = 3486784401 := by decide
    simp only [Bool.not_true, cond_false, wcyc_ok hg ht 10 n [t] [] hu (by omega) (by simp) (by simp) (by simp), Option.bind_some, List.nil_append]
    rw [sortC (by omega) (wys_perm hg 10 [t]) (cyc_up hg 10 [t]) (fun x hx => by obtain ⟨s, _, h⟩ := cyc_each (l := l) (t := t) hx; omega) (by omega)]
    rfl

/-! ### The reference -/
theorem foldl_or {α : Type} {p : α → Bool} : ∀ {l : List α} {s : Bool}, l.foldl (fun s x => s || p x) s = (s || l.any p)
  | [], s => by simp
  | x :: l, s => by rw [List.foldl_cons, foldl_or, List.any_cons, Bool.or_assoc]
/-! ### What is a cycle, and that there is one -/
theorem cyc_ex {l : List Edge} {ns : List Int} (hg : GoodE l ns) {t : Int} : ∀ d way, unmet ns (inW way) < d → t ∈ way → AW (eR l) (fun x => x ∈ way) (lastZ way) t → cycP d l t way ≠ [] := by
  intro d
  induction d with
  | zero => intro way h; omega
  | succ d ih =>
    intro way hu ht h
    unfold cycP
    cases h with
    | one h =>
      rw [if_pos (mem_succs.2 h)]
      simp
    | @step _ _ c h hc k =>
      have hct : c ≠ t := fun e => hc (e ▸ ht)
      have hcn := (hg.ends _ h).2
      have hless := unmet_less hg.nd hcn (p := inW way) (q := inW (way ++ [c])) (by unfold inW; exact decide_eq_false hc) fun x => inW_snoc
      have hne := ih (way ++ [c]) (by omega) (List.mem_append_left _ ht) (by
        rw [lastZ_snoc]
        exact k.strip.mono fun x hx => by
          rcases List.mem_append.1 hx with hx | hx
          · exact .inl hx
          · exact .inr (List.mem_singleton.1 hx))
      obtain ⟨x, hx⟩ := List.exists_mem_of_ne_nil _ hne
      refine List.ne_nil_of_mem (List.mem_append_right _ (List.mem_flatMap.2 ⟨c, mem_succs.2 h, ?_⟩)) (a := x)
      rw [if_neg hct, if_neg hc]
      exact hx
theorem cyc_on {l : List Edge} {t : Int} : ∀ d way, t ∈ way → (∀ y ∈ way, (y = t ∨ Wy (eR l) t y) ∧ (y = lastZ way ∨ Wy (eR l) y (lastZ way))) → ∀ x ∈ cycP d l t way, ∀ y ∈ x, Wy (eR l) t y ∧ Wy (eR l) y t
  | 0, way, _, _, x, h => by cases h
  | d + 1, way, ht, hi, x, h => by
    unfold cycP at h
    rcases List.mem_append.1 h with h | h
    · split at h
      · rename_i hb
        rw [List.mem_singleton] at h
        subst h
        have hb := mem_succs.1 hb
        have h2 : ∀ y ∈ x, Wy (eR l) y t := fun y hy => by
          rcases (hi y hy).2 with e | h
          · rw [e]; exact .one hb
          · exact h.snoc hb
        intro y hy
        refine ⟨?_, h2 y hy⟩
        rcases (hi y hy).1 with e | h
        · rw [e]; exact h2 t ht
        · exact h
      · cases h
    · obtain ⟨c, hc, hx⟩ := List.mem_flatMap.1 h
      have hc := mem_succs.1 hc
      split at hx
      · cases hx
      · split at hx
        · cases hx
        · refine cyc_on d (way ++ [c]) (List.mem_append_left _ ht) (fun y hy => ?_) x hx
          rw [lastZ_snoc]
          have hlast : lastZ way ∈ way := lastZ_mem (List.ne_nil_of_mem ht)
          rcases List.mem_append.1 hy with hy | hy
          · refine ⟨(hi y hy).1, .inr ?_⟩
            rcases (hi y hy).2 with e | h
            · rw [e]; exact .one hc
            · exact h.snoc hc
          · rw [List.mem_singleton] at hy
            subst hy
            refine ⟨.inr ?_, .inl rfl⟩
            rcases (hi _ hlast).1 with e | h
            · rw [e] at hc; exact .one hc
            · exact h.snoc hc
theorem cyc_bnd {l : List Edge} {t : Int} {x : List Int} (h : x ∈ cyc l t) : ∀ y ∈ x, Wy (eR l) t y ∧ Wy (eR l) y t :=
  cyc_on 10 [t] (List.mem_singleton_self _) (fun y hy => by rw [List.mem_singleton] at hy; subst hy; exact ⟨.inl rfl, .inl rfl⟩) x h
theorem cyc_iff {l : List Edge} {ns : List Int} (hg : GoodE l ns) {t : Int} : cyc l t ≠ [] ↔ Wy (eR l) t t := by
  constructor
  · intro h
    obtain ⟨x, hx⟩ := List.exists_mem_of_ne_nil _ h
    obtain ⟨s, rfl, _⟩ := cyc_each hx
    exact (cyc_bnd hx t (List.mem_cons_self ..)).1
  · intro h
    have hu : unmet ns (inW [t]) < 10 := by have := unmet_le (ns := ns) (p := inW [t]); have := hg.len8; omega
    exact cyc_ex hg 10 [t] hu (List.mem_singleton_self _) (h.aw.strip.mono fun x hx => .inr (List.mem_singleton.1 hx))
end Go.Proofs.Ytkfemopgfjooeaa

/- Layer 9 (waits): the laws. -/
namespace Go.Proofs.Ytkfemopgfjooeaa
open Go.Bur
set_option linter.unusedSimpArgs false
set_option linter.unusedVariables false
set_option maxRecDepth 100000

theorem Brk.same {t : Int} {l r r' : List Edge} {vs vs' : List Int} (h : Brk t l vs r) (k : Brk t l vs' r') : vs = vs' ∧ r = r' := by
  induction h generalizing vs' r' with
  | nil h0 =>
    cases k with
    | nil _ => exact ⟨rfl, rfl⟩
    | cons h1 _ => exact absurd h0 h1
  | cons h0 _ ih =>
    cases k with
    | nil h1 => exact absurd h1 h0
    | cons _ k => obtain ⟨h1, h2⟩ := ih k; exact ⟨by rw [h1], h2⟩
def someE : List Edge := [Edge.mk 1 2, Edge.mk 2 1, Edge.mk 2 3, Edge.mk 3 2]
theorem some_keys : KeysIn someE := fun e he => by
  simp only [someE, List.mem_cons, List.not_mem_nil, or_false] at he
  rcases he with rfl | rfl | rfl | rfl <;> decide
theorem some_right : rightP someE = true := by kernel_rfl
theorem some_cyc : cyc someE 2 = [[2, 1], [2, 3]] := by kernel_rfl
theorem some_ref : ref09_Break 2003 someE 2 = some ([], [3, 2]) := by kernel_rfl
open Classical in
theorem wakesE (n : Nat) (hn : 2003 ≤ n) : law09_wakes n = some true := by
  have h2 : keyIn .i64 2 = true := by decide
  have hB : waits_Break n someE 2 = some (0, [3, 2], []) := by
    rcases breakE n (by omega) someE (by decide) some_keys h2 with ⟨h, _⟩ | ⟨_, vs, r, b1, _, _, b2, _⟩
    · rw [some_right] at h; cases h
    · rcases breakE 2003 (by omega) someE (by decide) some_keys h2 with ⟨h, _⟩ | ⟨_, vs', r', c1, _, _, _, c2⟩
      · rw [some_right] at h; cases h
      · rw [some_ref] at c2
        simp only [Option.some.injEq, Prod.mk.injEq] at c2
        obtain ⟨rfl, rfl⟩ := b1.same c1
        obtain ⟨rfl, rfl⟩ := c2
        exact b2
  have hC := cyclesE n hn someE (by decide) some_keys h2
  rw [some_right, if_pos rfl, some_cyc] at hC
  have hD := circlesE n (by omega) someE (by decide) some_keys
  have hcirc : Circ someE := ⟨1, .step (c := 2) (by show Edge.mk 1 2 ∈ someE; decide) (.one (by show Edge.mk 2 1 ∈ someE; decide))⟩
  rw [some_right, decide_eq_true hcirc] at hD
  unfold law09_wakes
  simp only [law09_some, show ([(Edge.mk 1 2), (Edge.mk 2 1), (Edge.mk 2 3), (Edge.mk 3 2)] : List Edge) = someE from rfl, Option.bind_some, hB, hC, hD, jn]
  rfl
theorem i64_key {x : Int} (h : okT tab 9 (.int .i64) x) : keyIn .i64 x = true := keyIn_i64 h

/-! ### The laws -/
end Go.Proofs.Ytkfemopgfjooeaa

/- Layer 9 (waits): the law WaitsWays. -/
namespace Go.Proofs.Ytkfemopgfjooeaa
open Go.Bur
set_option linter.unusedSimpArgs false
set_option linter.unusedVariables false
set_option maxRecDepth 100000

/-- A way from t to itself on which none stands twice. -/
structure IsWay (l : List Edge) (t : Int) (x : List Int) : Prop where
  nd : x.Nodup
  ch : ∀ (i : Nat) (a b : Int), x[i]? = some a → x[i + 1]? = some b → eR l a b
  hd : x[0]? = some t
  back : eR l (lastZ x) t
theorem last_at {x : List Int} (i : Nat) (a : Int) (h : x[i]? = some a) (hl : ¬ i + 1 < x.length) : a = lastZ x := by
  have h1 : i < x.length := (List.getElem?_eq_some_iff.1 h).1
  unfold lastZ
  rw [List.getLast?_eq_getElem?, show x.length - 1 = i by omega, h]
  rfl
theorem cyc_ways {l : List Edge} {t : Int} : ∀ d way x, x ∈ cycP d l t way → way.Nodup → (∀ (i : Nat) (a b : Int), way[i]? = some a → way[i + 1]? = some b → eR l a b) → way[0]? = some t → IsWay l t x
  | 0, way, x, h, _, _, _ => by cases h
  | d + 1, way, x, h, hn, hc, h0 => by
    unfold cycP at h
    rcases List.mem_append.1 h with h | h
    · split at h
      · rename_i hb
        rw [List.mem_singleton] at h
        subst h
        exact ⟨hn, hc, h0, mem_succs.1 hb⟩
      · cases h
    · obtain ⟨y, hy, hx⟩ := List.mem_flatMap.1 h
      split at hx
      · cases hx
      · split at hx
        · cases hx
        · rename_i hyt hyw
          have hpos : 0 < way.length := (List.getElem?_eq_some_iff.1 h0).1
          refine cyc_ways d _ x hx ?_ ?_ ?_
          · rw [List.nodup_append]
            exact ⟨hn, by simp, fun a ha b hb e => by rw [List.mem_singleton] at hb; subst hb; subst e; exact hyw ha⟩
          · intro i a b ha hb
            by_cases hi : i + 1 < way.length
            · rw [List.getElem?_append_left (by omega)] at ha
              rw [List.getElem?_append_left hi] at hb
              exact hc i a b ha hb
            · have hi2 : i + 1 < (way ++ [y]).length := (List.getElem?_eq_some_iff.1 hb).1
              rw [List.length_append, List.length_singleton] at hi2
              rw [List.getElem?_append_left (by omega)] at ha
              have e : a = lastZ way := last_at i a ha hi
              rw [List.getElem?_append_right (by omega), show i + 1 - way.length = 0 by omega] at hb
              have e2 : y = b := by simpa using hb
              subst e; subst e2
              exact mem_succs.1 hy
          · rw [List.getElem?_append_left hpos]; exact h0
theorem cyc_isway {l : List Edge} {t : Int} {x : List Int} (h : x ∈ cyc l t) : IsWay l t x :=
  cyc_ways 10 [t] x h (by simp) (fun i a b _ hb => by simp at hb) rfl

theorem eqE (a b : Edge) : dkEq tab (.st 0) a b = decide (a = b) := by
  obtain ⟨a1, a2⟩ := a
  obtain ⟨b1, b2⟩ := b
  show ((a1 == b1) && ((a2 == b2) && true)) = _
  rw [Bool.eq_iff_iff]
  simp
theorem dget_put {m : List (Edge × Bool)} {e f : Edge} : dget (dkEq tab (.st 0)) (dput (dkEq tab (.st 0)) m e true) f = if f = e then some true else dget (dkEq tab (.st 0)) m f := by
  induction m with
  | nil =>
    simp only [dput, dget, eqE]
    by_cases h : f = e
    · rw [decide_eq_true h, if_pos h]
    · rw [decide_eq_false h, if_neg h]
  | cons p m ih =>
    obtain ⟨k, v⟩ := p
    simp only [dput, dget, eqE]
    by_cases h : e = k
    · subst h
      rw [decide_eq_true rfl]
      simp only [dget, eqE]
      by_cases hf : f = e
      · rw [decide_eq_true hf, if_pos hf]
      · rw [decide_eq_false hf, if_neg hf]
    · rw [decide_eq_false h]
      simp only [dget, eqE, ih]
      by_cases hf : f = k
      · rw [decide_eq_true hf]
        exact (if_neg (fun h2 => h (h2.symm.trans hf))).symm
      · rw [decide_eq_false hf]
def edgeM (l : List Edge) (m : List (Edge × Bool)) : List (Edge × Bool) := l.foldl (fun s x => dput (dkEq tab (.st 0)) s x true) m
theorem edgeM_all {e : Edge} : ∀ {l : List Edge} {m : List (Edge × Bool)}, (e ∈ l ∨ dget (dkEq tab (.st 0)) m e = some true) → dget (dkEq tab (.st 0)) (edgeM l m) e = some true
  | [], m, h => by
    rcases h with h | h
    · cases h
    · exact h
  | x :: l, m, h => by
    show dget _ (edgeM l (dput (dkEq tab (.st 0)) m x true)) e = some true
    refine edgeM_all ?_
    rw [dget_put]
    by_cases hx : e = x
    · rw [if_pos hx]; exact .inr rfl
    · rw [if_neg hx]
      rcases h with h | h
      · rcases List.mem_cons.1 h with h | h
        · exact absurd h hx
        · exact .inl h
      · exact .inr h
theorem eR_mk {l : List Edge} {a b : Int} (h : eR l a b) : Edge.mk a b ∈ l := h
theorem mod_next {x : List Int} {i : Nat} (hi : i < x.length) (hx : x.length ≤ 1000) : remP ((i + 1 : Nat) : Int) (x.length : Int) = some ((if i + 1 < x.length then i + 1 else 0 : Nat) : Int) := by
  unfold remP
  rw [if_pos (by omega)]
  congr 1
  by_cases h : i + 1 < x.length
  · rw [if_pos h, Int.tmod_eq_of_lt (by omega) (by omega)]
  · rw [if_neg h, show i + 1 = x.length by omega, Int.tmod_self]
    rfl
theorem way_loop (n : Nat) (hn : 1003 ≤ n) {l : List Edge} {ns : List Int} (hg : GoodE l ns) {t : Int} (ht : keyIn .i64 t = true) {x : List Int} (hw : IsWay l t x) (hx : x.length ≤ 100) (hk : ∀ y ∈ x, keyIn .i64 y = true) (C : List (List Int)) (own : List Int) (M : List (Edge × Bool)) (hM : ∀ e ∈ l, dget (dkEq tab (.st 0)) M e = some true) (r2 : _ → Option Bool) (k i : Nat) (hi : i < 4611686018427387904) :
    law09_WaitsWays_l3 n r2 n (l, t, x, (k : Int), (i : Int), x, (x.length : Int), 0, C, own, M, ([] : List (Int × Bool)), ()) = r2 (l, t, (k : Int), ((i + 1 : Nat) : Int), C, own, M, ()) := by
  have hpos : 0 < x.length := (List.getElem?_eq_some_iff.1 hw.hd).1
  have h2 : 2 ≤ x.length := by
    by_cases h : 2 ≤ x.length
    · exact h
    · have e1 : t = lastZ x := last_at 0 t hw.hd (by omega)
      have h1 := hw.back
      rw [← e1] at h1
      have := (mayB_iff.1 (hg.may _ (eR_mk h1))).2.2
      exact absurd rfl this
  show law09_WaitsWays_l3 n r2 n (l, t, x, (k : Int), (i : Int), x, (x.length : Int), ((0 : Nat) : Int), C, own, M, ([] : List (Int × Bool)), ()) = _
  unfold law09_WaitsWays_l3
  rw [run_loopI x (fun j (m : List (Int × Bool)) => (l, t, x, (k : Int), (i : Int), x, (x.length : Int), (j : Int), C, own, M, m, ())) (fun _ y m => .inr ((y, true) :: m)) (fun _ => r2 (l, t, (k : Int), ((i + 1 : Nat) : Int), C, own, M, ())) (fun j m => AllT m ∧ m.length = j ∧ ∀ y, mhas m y = decide (y ∈ x.take j)) ?_ ?_ ?_ n 0 [] (Nat.zero_le _) (by omega) ⟨fun _ h => (by cases h), rfl, fun y => by simp [mhas]⟩]
  · exact runL_fold (g := fun y m => (y, true) :: m) _ _ _
  · intro j m y m' hy hI e
    have e : (y, true) :: m = m' := by simpa using e
    subst e
    obtain ⟨i1, i2, i3⟩ := hI
    refine ⟨fun p hp => ?_, by simp [i2], fun z => ?_⟩
    · rcases List.mem_cons.1 hp with rfl | hp
      · rfl
      · exact i1 p hp
    · have hj : j < x.length := (List.getElem?_eq_some_iff.1 hy).1
      have := i3 z
      unfold mhas at this ⊢
      rw [List.any_cons, this, Bool.eq_iff_iff]
      rw [List.take_add_one, hy]
      simp only [Bool.or_eq_true, decide_eq_true_iff, List.mem_append, Option.toList_some, List.mem_singleton]
      constructor
      · rintro (h | h)
        · exact .inr h.symm
        · exact .inl h
      · rintro (h | h)
        · exact .inr h
        · exact .inl h.symm
  · intro r j m y hy hj hI
    obtain ⟨i1, i2, i3⟩ := hI
    have hym : y ∈ x := List.mem_of_getElem? hy
    have hnm : mhas m y = false := by
      rw [i3 y]
      refine decide_eq_false fun h => ?_
      obtain ⟨q, hq, e⟩ := List.mem_iff_getElem.1 h
      rw [List.length_take] at hq
      rw [List.getElem_take] at e
      have h1 := (List.getElem?_eq_some_iff.1 hy).2
      have := (List.getElem_inj hw.nd).1 (e.trans h1.symm)
      omega
    obtain ⟨z, hz, hed⟩ : ∃ z, x[if j + 1 < x.length then j + 1 else 0]? = some z ∧ eR l y z := by
      by_cases h : j + 1 < x.length
      · rw [if_pos h]
        exact ⟨x[j + 1], List.getElem?_eq_getElem h, hw.ch j y _ hy (List.getElem?_eq_getElem h)⟩
      · rw [if_neg h]
        refine ⟨t, hw.hd, ?_⟩
        rw [last_at j y hy h]
        exact hw.back
    simp only [lt_dec hj, cond_true, idx_nat, hy, Option.bind_some, look_allT i1 (hk y hym), hnm, jn, cond_false, mod_next hj (show x.length ≤ 1000 by omega), hz, hM _ (eR_mk hed), orZ, Option.getD_some, Bool.not_true, mput_ok (hk y hym) (show m.length ≤ 1000000 by omega), wrap_succ (show j < 4611686018427387904 by omega)]
  · intro r m hI
    have e : decide ((x.length : Int) < 2) = false := decide_eq_false (by omega)
    simp only [ge_dec (Nat.lt_irrefl _), cond_false, jn, e, idx_zero, hw.hd, Option.bind_some, bne_self_eq_false, wrap_succ hi]

open Classical in
theorem plainWaitsWays (l : List Edge) (t : Int) (h1 : okT tab 9 (.sl (.st 0)) l) (h2 : okT tab 9 (.int .i64) t) : ∃ n, law09_WaitsWays n l t = some true := by
  obtain ⟨n, hn⟩ : ∃ n, 4000000001 ≤ n := ⟨4000000001, Nat.le_refl _⟩
  refine ⟨n, ?_⟩
  have hk := keys_of h1
  have ht := i64_key h2
  unfold law09_WaitsWays
  simp only [wakesE n (by omega), Option.bind_some, Bool.not_true, cond_false]
  by_cases hl : (l.length : Int) > 80
  · rw [decide_eq_true hl]; rfl
  · rw [decide_eq_false hl]
    simp only [cond_false, cyclesE n (by omega) l (by omega) hk ht, Option.bind_some, boundE n (by omega) l (by omega) hk ht, jn]
    cases hr : rightP l with
    | false => rfl
    | true =>
      have hg := right_good (by omega) hk hr
      have hcl := cyc_len hg (t := t)
      have hbl := bnd_len hg (t := t)
      simp only [if_true, bne_self_eq_false, cond_false]
      show law09_WaitsWays_l1 n n (l, t, l, (l.length : Int), ((0 : Nat) : Int), cyc l t, bnd l t, ([] : List (Edge × Bool)), ()) = _
      unfold law09_WaitsWays_l1
      rw [run_loop l (fun i (m : List (Edge × Bool)) => (l, t, l, (l.length : Int), (i : Int), cyc l t, bnd l t, m, ())) (fun _ x m => .inr (dput (dkEq tab (.st 0)) m x true)) (fun m => law09_WaitsWays_l2 n n (l, t, ((cyc l t).length : Int), 0, cyc l t, bnd l t, m, ())) ?_ ?_ n 0 [] (Nat.zero_le _) (by omega)]
      · rw [List.drop_zero]
        refine (runL_fold (g := fun x (m : List (Edge × Bool)) => dput (dkEq tab (.st 0)) m x true) _ _ _).trans ?_
        have hM : ∀ e ∈ l, dget (dkEq tab (.st 0)) (edgeM l []) e = some true := fun e he => edgeM_all (.inl he)
        show law09_WaitsWays_l2 n n (l, t, ((cyc l t).length : Int), ((0 : Nat) : Int), cyc l t, bnd l t, edgeM l [], ()) = _
        generalize edgeM l [] = M at hM
        unfold law09_WaitsWays_l2
        rw [run_loop (cyc l t) (fun i (_ : Unit) => (l, t, ((cyc l t).length : Int), (i : Int), cyc l t, bnd l t, M, ())) (fun _ _ _ => .inr ()) (fun _ => law09_WaitsWays_l4 n n (l, t, false, ((bnd l t).length : Int), 0, cyc l t, bnd l t, ())) ?_ ?_ n 0 () (Nat.zero_le _) (by omega)]
        · rw [runL_skip]
          show law09_WaitsWays_l4 n n (l, t, false, ((bnd l t).length : Int), ((0 : Nat) : Int), cyc l t, bnd l t, ()) = _
          unfold law09_WaitsWays_l4
          rw [run_loop (bnd l t) (fun i (s : Bool) => (l, t, s, ((bnd l t).length : Int), (i : Int), cyc l t, bnd l t, ())) (fun _ x s => .inr (s || (x == t))) (fun s => if s = decide (0 < (cyc l t).length) then some (s == decide (0 < (bnd l t).length)) else some false) ?_ ?_ n 0 false (Nat.zero_le _) (by omega)]
          · rw [List.drop_zero, runL_fold (g := fun x s => s || (x == t)), foldl_or, Bool.false_or]
            have e1 : ((bnd l t).any fun x => x == t) = decide (Wy (eR l) t t) := by
              rw [Bool.eq_iff_iff, List.any_eq_true, decide_eq_true_iff]
              constructor
              · rintro ⟨x, hx, e⟩
                have e : x = t := by simpa using e
                subst e
                exact (mem_bnd.1 hx).1
              · intro h
                exact ⟨t, mem_bnd.2 ⟨h, h⟩, by simp⟩
            have e2 : decide (0 < (cyc l t).length) = decide (Wy (eR l) t t) := by
              rw [Bool.eq_iff_iff, decide_eq_true_iff, decide_eq_true_iff, ← cyc_iff hg, ← List.length_pos_iff]
            have e3 : decide (0 < (bnd l t).length) = decide (Wy (eR l) t t) := by
              rw [Bool.eq_iff_iff, decide_eq_true_iff, decide_eq_true_iff]
              constructor
              · intro h
                obtain ⟨x, hx⟩ := List.exists_mem_of_length_pos h
                exact (mem_bnd.1 hx).1.trans (mem_bnd.1 hx).2
              · intro h
                exact List.length_pos_of_mem (mem_bnd.2 ⟨h, h⟩)
            rw [e1, e2, e3, if_pos rfl, beq_self_eq_true]
          · intro r i s x hx hi
            obtain ⟨w1, w2⟩ := mem_bnd.1 (List.mem_of_getElem? hx)
            have hkx : keyIn .i64 x = true := hg.names.key _ (way_names w1).2
            have l1 : waits_Leads n l t x = some true := by
              rw [leadsE n (by omega) l (by omega) hk t hkx, hr, decide_eq_true w1]; rfl
            have l2 : waits_Leads n l x t = some true := by
              rw [leadsE n (by omega) l (by omega) hk x ht, hr, decide_eq_true w2]; rfl
            cases s <;> simp only [lt_dec hi, cond_true, cond_false, idx_nat, hx, Option.bind_some, jn, l1, l2, Bool.not_true, wrap_succ (show i < 4611686018427387904 by omega), Bool.true_or, Bool.false_or]
          · intro r s
            have c1 : decide (((cyc l t).length : Int) > 0) = decide (0 < (cyc l t).length) := by rw [Bool.eq_iff_iff, decide_eq_true_iff, decide_eq_true_iff]; omega
            have c2 : decide (((bnd l t).length : Int) > 0) = decide (0 < (bnd l t).length) := by rw [Bool.eq_iff_iff, decide_eq_true_iff, decide_eq_true_iff]; omega
            simp only [ge_dec (Nat.lt_irrefl _), cond_false, jn, c1, c2]
            by_cases h : s = decide (0 < (cyc l t).length)
            · rw [if_pos h, h, beq_self_eq_true, cond_true]
            · rw [if_neg h, show (s == decide (0 < (cyc l t).length)) = false from beq_eq_false_iff_ne.2 h, cond_false]
        · intro r i s x hx hi
          have hxm := List.mem_of_getElem? hx
          have hw := cyc_isway hxm
          obtain ⟨_, _, hxl⟩ := cyc_each hxm
          have hkx : ∀ y ∈ x, keyIn .i64 y = true := fun y hy => hg.names.key _ (way_names (cyc_bnd hxm y hy).1).2
          simp only [lt_dec hi, cond_true, idx_nat, hx, Option.bind_some]
          exact way_loop n (by omega) hg ht hw (by omega) hkx (cyc l t) (bnd l t) M hM r _ i (by omega)
        · intro r s
          simp only [ge_dec (Nat.lt_irrefl _), cond_false]
      · intro r i m x hx hi
        simp only [lt_dec hi, cond_true, idx_nat, hx, Option.bind_some, wrap_succ (show i < 4611686018427387904 by omega)]
      · intro r m
        simp only [ge_dec (Nat.lt_irrefl _), cond_false]
end Go.Proofs.Ytkfemopgfjooeaa
