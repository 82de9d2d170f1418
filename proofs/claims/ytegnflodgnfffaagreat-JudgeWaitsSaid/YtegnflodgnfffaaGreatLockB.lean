/- Layer 9 (waits): which edges may be. -/
import Derived.Test.YtegnflodgnfffaaGreatF5
import Derived.Test.YtegnflodgnfffaaGreatGra
import Derived.Test.YtegnflodgnfffaaGreatRw
namespace Go.Proofs.YtegnflodgnfffaaGreat
open Go.Bur
set_option linter.unusedSimpArgs false
set_option linter.unusedVariables false
set_option maxRecDepth 100000

def cmpI (a b : Int) : Int := if a < b then -1 else if a > b then 1 else 0
theorem compare_int (n : Nat) (a b : Int) : cmp_Compare_int n a b = some (cmpI a b) := by
  unfold cmp_Compare_int cmp_isNaN_int cmpI
  by_cases h1 : a < b
  · simp [h1]
  · by_cases h2 : a > b
    · simp [h1, h2]
    · simp [h1, h2]
theorem or2 (n : Nat) (hn : 3 ≤ n) (a b : Int) : cmp_Or_int n [a, b] = some (if a ≠ 0 then a else b) := by
  obtain ⟨n, rfl⟩ : ∃ m, n = m + 3 := ⟨n - 3, by omega⟩
  unfold cmp_Or_int cmp_Or_int_l1
  by_cases ha : a = 0
  · by_cases hb : b = 0
    · subst ha hb; rfl
    · subst ha
      have : (b != 0) = true := by simpa using hb
      simp [loopF, idx, IntKind.wrap_i64, this]
  · have : (a != 0) = true := by simpa using ha
    simp [loopF, idx, this, ha]
theorem cmpI_zero {a b : Int} : cmpI a b = 0 ↔ a = b := by unfold cmpI; split <;> (try split) <;> omega
theorem cmpI_lt {a b : Int} : cmpI a b < 0 ↔ a < b := by unfold cmpI; split <;> (try split) <;> omega
instance : DecidableEq Edge := fun a b => match Int.decEq a.from_ b.from_, Int.decEq a.to b.to with
  | .isTrue h, .isTrue k => .isTrue (by cases a; cases b; simp_all)
  | .isFalse h, _ => .isFalse (fun e => h (by rw [e]))
  | _, .isFalse h => .isFalse (fun e => h (by rw [e]))
theorem edge_eqb (a b : Edge) : Edge.eqb a b = decide (a = b) := by
  obtain ⟨a1, a2⟩ := a
  obtain ⟨b1, b2⟩ := b
  by_cases h1 : a1 = b1 <;> by_cases h2 : a2 = b2 <;> simp [Edge.eqb, h1, h2]
def cE (a b : Edge) : Int := if cmpI a.from_ b.from_ ≠ 0 then cmpI a.from_ b.from_ else cmpI a.to b.to
def ltE (a b : Edge) : Bool := decide (a.from_ < b.from_ ∨ a.from_ = b.from_ ∧ a.to < b.to)
theorem ltE_iff {a b : Edge} : ltE a b = true ↔ a.from_ < b.from_ ∨ a.from_ = b.from_ ∧ a.to < b.to := by unfold ltE; exact decide_eq_true_iff
theorem cE_lt {a b : Edge} : cE a b < 0 ↔ ltE a b = true := by
  rw [ltE_iff]
  unfold cE
  by_cases h : cmpI a.from_ b.from_ = 0
  · have := cmpI_zero.1 h
    simp only [ne_eq, h, not_true_eq_false, if_false, cmpI_lt]
    omega
  · have h' : a.from_ ≠ b.from_ := fun e => h (cmpI_zero.2 e)
    simp only [ne_eq, h, not_false_eq_true, if_true, cmpI_lt]
    omega
theorem cE_ge {a b : Edge} : decide (cE a b ≥ 0) = !ltE a b := by
  have := cE_lt (a := a) (b := b)
  by_cases h : ltE a b = true
  · rw [h, decide_eq_false (by have := this.2 h; omega)]; rfl
  · rw [decide_eq_true (by have : ¬ cE a b < 0 := fun e => h (this.1 e); omega)]
    simp only [Bool.not_eq_true] at h
    rw [h]; rfl
theorem compareE (n : Nat) (hn : 1003 ≤ n) (a b : Edge) : waits_compare n a b = some (cE a b) := by
  unfold waits_compare
  simp only [compare_int, Option.bind_some, or2 n (by omega)]
  rfl
theorem beforeE (n : Nat) (a b : Edge) : ref09_before n a b = some (ltE a b) := by
  unfold ref09_before ltE
  simp only [jn, ibeq]
  by_cases h1 : a.from_ < b.from_
  · simp [h1]
  · by_cases h2 : a.from_ = b.from_
    · simp [h2]
    · simp [h1, h2]
def mayB (e : Edge) : Bool := decide (0 < e.from_ ∧ 0 < e.to ∧ e.from_ ≠ e.to)
theorem mayB_iff {e : Edge} : mayB e = true ↔ 0 < e.from_ ∧ 0 < e.to ∧ e.from_ ≠ e.to := by unfold mayB; exact decide_eq_true_iff
theorem mayE (n : Nat) (e : Edge) : waits_may n e = some (mayB e) := by
  unfold waits_may mayB
  simp only [jn, ibne]
  by_cases h1 : e.from_ > 0 <;> by_cases h2 : e.to > 0 <;> by_cases h3 : e.from_ = e.to <;> simp [h1, h2, h3]
  all_goals omega

/-! ### A walk that checks, and gathers -/
theorem runL_chk {α σ R : Type} {p : Nat → α → Bool} {g : α → σ → σ} {v : Option R} {fin : σ → Option R} : ∀ (l : List α) (i : Nat) (s : σ), runL (fun i x s => if p i x then .inr (g x s) else .inl v) fin l i s = if allFrom p i l then fin (l.foldl (fun s x => g x s) s) else v
  | [], _, _ => rfl
  | x :: t, i, s => by
    by_cases hp : p i x = true
    · simp only [runL, allFrom, hp, if_true, Bool.true_and, List.foldl_cons]; exact runL_chk t (i + 1) _
    · have hp : p i x = false := by simpa using hp
      simp [runL, allFrom, hp]
def metE (e : Edge) (m : List (Int × Bool)) : List (Int × Bool) := (e.to, true) :: (e.from_, true) :: m
def met (l : List Edge) : List (Int × Bool) := l.foldl (fun s x => metE x s) []
def KeysIn (l : List Edge) : Prop := ∀ e ∈ l, keyIn .i64 e.from_ = true ∧ keyIn .i64 e.to = true
def chainE (l : List Edge) : Bool := chainB mayB ltE none l
def rightP (l : List Edge) : Bool := chainE l && decide ((mkeys (met l)).length ≤ 8)
theorem mput_ok {m : List (Int × Bool)} {x : Int} {v : Bool} (hk : keyIn .i64 x = true) (hm : m.length ≤ 1000000) : mput .i64 m x v = some ((x, v) :: m) := by
  unfold mput
  rw [hk, Nat.ble_eq_true_of_le hm]; rfl
theorem rightE (n : Nat) (hn : 1003 ≤ n) (l : List Edge) (hl : l.length ≤ 500) (hk : KeysIn l) : waits_right n l = some (rightP l) := by
  unfold waits_right
  show waits_right_l1 n n (l, l, (l.length : Int), ((0 : Nat) : Int), [], ()) = _
  unfold waits_right_l1
  rw [run_loopI l (fun i s => (l, l, (l.length : Int), (i : Int), s, ())) (fun i x s => if stepA mayB ltE l i x then .inr (metE x s) else .inl (some false)) (fun s => some (decide (((mkeys s).length : Int) ≤ 8))) (fun i s => s.length = 2 * i) ?_ ?_ ?_ n 0 _ (Nat.zero_le _) (by omega) rfl]
  · rw [List.drop_zero, runL_chk, allFrom_chain]
    unfold rightP chainE met
    cases chainB mayB ltE none l with
    | false => rfl
    | true => simp only [if_true, Bool.true_and]; congr 1; exact decide_eq_decide.2 (by omega)
  · intro i s x s' hx hI h
    split at h
    · cases h
      show (metE x s).length = _
      simp only [metE, List.length_cons]; omega
    · cases h
  · intro r i s x hx hi hI
    have hm := hk x (List.mem_of_getElem? hx)
    simp only [lt_dec hi, cond_true, idx_nat, hx, Option.bind_some, mayE, jn]
    have hput : ((mput .i64 s x.from_ true).bind fun l10 => (mput .i64 l10 x.to true).bind fun l11 => r (l, l, (l.length : Int), IntKind.wrap .i64 ((i : Int) + 1), l11, ())) = r (l, l, (l.length : Int), ((i + 1 : Nat) : Int), metE x s, ()) := by
      rw [mput_ok hm.1 (by omega), Option.bind_some, mput_ok hm.2 (by simp only [List.length_cons]; omega), Option.bind_some, wrap_succ (by omega)]; rfl
    unfold stepA
    cases hb : mayB x with
    | false => rfl
    | true =>
      simp only [Bool.not_true, cond_false, Bool.true_and]
      cases i with
      | zero =>
        rw [decide_eq_false (by omega)]
        simp only [cond_false, prevO, prevOk, if_true]
        exact hput
      | succ j =>
        rw [decide_eq_true (by omega)]
        simp only [cond_true, wrap_pred (show j < 4611686018427387904 by omega), idx_nat, get_some (show j < l.length by omega), Option.bind_some, compareE n hn, cE_ge, prevO, prevOk]
        cases ltE l[j] x with
        | true => simp only [Bool.not_true, cond_false, if_true]; exact hput
        | false => rfl
  · intro r s hI
    simp only [ge_dec (Nat.lt_irrefl _), cond_false]
theorem mhas_met {x : Int} : ∀ {l : List Edge} {m : List (Int × Bool)}, mhas (l.foldl (fun s x => metE x s) m) x = true ↔ mhas m x = true ∨ ∃ e ∈ l, e.from_ = x ∨ e.to = x
  | [], m => by simp
  | e :: l, m => by
    rw [List.foldl_cons, mhas_met (l := l)]
    simp only [metE, mhas, List.any_cons, Bool.or_eq_true, decide_eq_true_iff, List.mem_cons]
    constructor
    · rintro ((h | h | h) | ⟨f, hf, h⟩)
      · exact .inr ⟨e, .inl rfl, .inr h⟩
      · exact .inr ⟨e, .inl rfl, .inl h⟩
      · exact .inl h
      · exact .inr ⟨f, .inr hf, h⟩
    · rintro (h | ⟨f, rfl | hf, h⟩)
      · exact .inl (.inr (.inr h))
      · rcases h with h | h
        · exact .inl (.inr (.inl h))
        · exact .inl (.inl h)
      · exact .inr ⟨f, hf, h⟩
theorem mem_met {x : Int} {l : List Edge} : x ∈ mkeys (met l) ↔ ∃ e ∈ l, e.from_ = x ∨ e.to = x := by
  rw [mem_mkeys]
  unfold met
  rw [mhas_met]
  simp [mhas]

/-! ### The reference -/
/-- What 'with' has gathered: whether the number is laid, and the numbers. -/
def layW (n x : Int) (s : Bool × List Int) : Bool × List Int :=
  let d := if x = n then true else s.1
  if !d && decide (n < x) then (true, s.2 ++ [n] ++ [x]) else (d, s.2 ++ [x])
def layF (n : Int) (s : Bool × List Int) : List Int := if s.1 then s.2 else s.2 ++ [n]
theorem layW_on {n : Int} : ∀ {l : List Int} {acc : List Int}, l.foldl (fun s x => layW n x s) (true, acc) = (true, acc ++ l)
  | [], acc => by simp
  | x :: l, acc => by
    rw [List.foldl_cons]
    have e : layW n x (true, acc) = (true, acc ++ [x]) := by unfold layW; simp
    rw [e, layW_on]; simp
theorem layW_off {n : Int} : ∀ {l : List Int} {acc : List Int}, l.Pairwise (· < ·) → layF n (l.foldl (fun s x => layW n x s) (false, acc)) = acc ++ insU l n
  | [], acc, _ => rfl
  | x :: l, acc, h => by
    obtain ⟨h1, h2⟩ := List.pairwise_cons.1 h
    rw [List.foldl_cons]
    unfold insU
    by_cases hlt : n < x
    · have e : layW n x (false, acc) = (true, acc ++ [n] ++ [x]) := by
        unfold layW
        rw [if_neg (by omega : ¬ x = n), decide_eq_true hlt]; rfl
      rw [e, layW_on, if_pos hlt]
      simp [layF]
    · rw [if_neg hlt]
      by_cases he : x = n
      · have e : layW n x (false, acc) = (true, acc ++ [x]) := by
          unfold layW
          rw [if_pos he]; rfl
        rw [e, layW_on, if_pos he]
        simp [layF]
      · have e : layW n x (false, acc) = (false, acc ++ [x]) := by
          unfold layW
          rw [if_neg he, decide_eq_false hlt]; rfl
        rw [e, layW_off h2, if_neg he]; simp
theorem layW_len {n x : Int} {s : Bool × List Int} : (layW n x s).2.length ≤ s.2.length + 2 := by
  obtain ⟨d, acc⟩ := s
  by_cases h1 : x = n
  · simp [layW, h1]
  · by_cases h2 : n < x <;> cases d <;> simp [layW, h1, h2]
theorem withN (n : Nat) (hn : 1003 ≤ n) (l : List Int) (hl : l.length ≤ 500) (hu : l.Pairwise (· < ·)) (x : Int) : ref09_with n l x = some (insU l x) := by
  unfold ref09_with
  show ref09_with_l1 n n (l, x, false, ((0 : Nat) : Int), [], ()) = _
  unfold ref09_with_l1
  rw [run_loopI l (fun i (s : Bool × List Int) => (l, x, s.1, (i : Int), s.2, ())) (fun _ y s => .inr (layW x y s)) (fun s => some (layF x s)) (fun i s => s.2.length ≤ 2 * i) ?_ ?_ ?_ n 0 (false, []) (Nat.zero_le _) (by omega) (Nat.le_refl _)]
  · rw [List.drop_zero, runL_fold, layW_off hu]; rfl
  · intro i s y s' hy hI h
    cases h
    have := layW_len (n := x) (x := y) (s := s); omega
  · intro r i s y hy hi hI
    simp only [lt_dec hi, cond_true, idx_nat, hy, Option.bind_some, jn, ref09_with_j2, ref09_with_j3, ibeq]
    unfold layW
    obtain ⟨d, acc⟩ := s
    simp only at hI ⊢
    have ha : ∀ (q : List Int), q.length ≤ 1000 → ∀ z : Int, app 8 q [z] = some (q ++ [z]) := fun q hq z => app_lt (by simp; omega) (by omega)
    by_cases he : y = x
    · rw [decide_eq_true he, if_pos he]
      simp only [cond_true, Bool.not_true, cond_false, hy, Option.bind_some, ha acc (by omega), Bool.false_and, Bool.false_eq_true, if_false, wrap_succ (show i < 4611686018427387904 by omega)]
    · rw [decide_eq_false he, if_neg he]
      simp only [cond_false]
      cases d with
      | true => simp only [cond_true, Bool.not_true, cond_false, hy, Option.bind_some, ha acc (by omega), Bool.false_and, Bool.false_eq_true, if_false, wrap_succ (show i < 4611686018427387904 by omega)]
      | false =>
        simp only [Bool.not_false, cond_true, hy, Option.bind_some, Bool.true_and]
        by_cases hlt : x < y
        · simp only [decide_eq_true hlt, cond_true, ha acc (by omega), Option.bind_some, hy, if_true, ha (acc ++ [x]) (by simp; omega), wrap_succ (show i < 4611686018427387904 by omega)]
        · simp only [decide_eq_false hlt, cond_false, hy, Option.bind_some, ha acc (by omega), Bool.false_eq_true, if_false, wrap_succ (show i < 4611686018427387904 by omega)]
  · intro r s hI
    simp only [ge_dec (Nat.lt_irrefl _), cond_false, jn, ref09_with_j4]
    unfold layF
    obtain ⟨d, acc⟩ := s
    cases d with
    | true => rfl
    | false =>
      simp only [Bool.not_false, cond_true, app_lt (show acc.length + [x].length ≤ 1000000 by simp at hI ⊢; omega) (show 8 ≤ 1000 by omega), Option.bind_some, Bool.false_eq_true, if_false]
def names (l : List Edge) : List Int := l.foldl (fun s e => insU (insU s e.from_) e.to) []
theorem up_names {l : List Edge} : (names l).Pairwise (· < ·) := foldl_inv (I := fun s : List Int => s.Pairwise (· < ·)) List.Pairwise.nil fun s e _ h => up_insU (up_insU h)
theorem mem_namesF {x : Int} : ∀ {l : List Edge} {s : List Int}, x ∈ l.foldl (fun s e => insU (insU s e.from_) e.to) s ↔ x ∈ s ∨ ∃ e ∈ l, e.from_ = x ∨ e.to = x
  | [], s => by simp
  | e :: l, s => by
    rw [List.foldl_cons, mem_namesF (l := l), mem_insU, mem_insU]
    simp only [List.mem_cons]
    constructor
    · rintro (((h | h) | h) | ⟨f, hf, h⟩)
      · exact .inl h
      · exact .inr ⟨e, .inl rfl, .inl h.symm⟩
      · exact .inr ⟨e, .inl rfl, .inr h.symm⟩
      · exact .inr ⟨f, .inr hf, h⟩
    · rintro (h | ⟨f, rfl | hf, h⟩)
      · exact .inl (.inl (.inl h))
      · rcases h with h | h
        · exact .inl (.inl (.inr h.symm))
        · exact .inl (.inr h.symm)
      · exact .inr ⟨f, hf, h⟩
theorem mem_names {x : Int} {l : List Edge} : x ∈ names l ↔ ∃ e ∈ l, e.from_ = x ∨ e.to = x := by
  unfold names
  rw [mem_namesF]; simp
theorem names_len (l : List Edge) : (names l).length = (mkeys (met l)).length :=
  nodup_ext_len (up_nodup up_names) mkeys_nodup fun x => by rw [mem_names, mem_met]
/-! ### Edges that may be -/
abbrev eR (l : List Edge) (a b : Int) : Prop := Edge.mk a b ∈ l
structure GoodE (l : List Edge) (ns : List Int) : Prop where
  nd : ns.Nodup
  len8 : ns.length ≤ 8
  ends : ∀ e ∈ l, e.from_ ∈ ns ∧ e.to ∈ ns
  key : ∀ x ∈ ns, keyIn .i64 x = true
  pos : ∀ x ∈ ns, 0 < x
  len : l.length ≤ 200
  srt : l.Pairwise fun a b => ltE a b = true
  may : ∀ e ∈ l, mayB e = true
theorem ltE_trans (a b c : Edge) (h : ltE a b = true) (k : ltE b c = true) : ltE a c = true := by
  rw [ltE_iff] at *; omega
theorem right_good {l : List Edge} (hl : l.length ≤ 200) (hk : KeysIn l) (h : rightP l = true) : GoodE l (names l) := by
  unfold rightP chainE at h
  rw [Bool.and_eq_true, chain_iff ltE_trans, decide_eq_true_iff, ← names_len] at h
  obtain ⟨⟨h1, h2, _⟩, h3⟩ := h
  refine ⟨up_nodup up_names, h3, fun e he => ⟨mem_names.2 ⟨e, he, .inl rfl⟩, mem_names.2 ⟨e, he, .inr rfl⟩⟩, fun x hx => ?_, fun x hx => ?_, hl, h2, h1⟩
  · obtain ⟨e, he, rfl | rfl⟩ := mem_names.1 hx
    · exact (hk e he).1
    · exact (hk e he).2
  · obtain ⟨e, he, rfl | rfl⟩ := mem_names.1 hx
    · exact (mayB_iff.1 (h1 e he)).1
    · exact (mayB_iff.1 (h1 e he)).2.1
theorem good_right {l : List Edge} {ns : List Int} (h : GoodE l ns) : rightP l = true := by
  unfold rightP chainE
  rw [Bool.and_eq_true, chain_iff ltE_trans, decide_eq_true_iff, ← names_len]
  refine ⟨⟨h.may, h.srt, fun y hy => by cases hy⟩, Nat.le_trans (nodup_sub_len (up_nodup up_names) fun x hx => ?_) h.len8⟩
  obtain ⟨e, he, rfl | rfl⟩ := mem_names.1 hx
  · exact (h.ends e he).1
  · exact (h.ends e he).2
theorem GoodE.keys {l : List Edge} {ns : List Int} (h : GoodE l ns) : KeysIn l := fun e he => ⟨h.key _ (h.ends e he).1, h.key _ (h.ends e he).2⟩
theorem GoodE.filter {l : List Edge} {ns : List Int} (h : GoodE l ns) (p : Edge → Bool) : GoodE (l.filter p) ns :=
  ⟨h.nd, h.len8, fun e he => h.ends e (List.mem_filter.1 he).1, h.key, h.pos, Nat.le_trans (List.length_filter_le _ _) h.len, h.srt.filter _, fun e he => h.may e (List.mem_filter.1 he).1⟩
theorem GoodE.names {l : List Edge} {ns : List Int} (h : GoodE l ns) : GoodE l (names l) := right_good h.len h.keys (good_right h)
end Go.Proofs.YtegnflodgnfffaaGreat

/- Layer 9 (waits): who is reached, who is bound, the victim. -/
namespace Go.Proofs.YtegnflodgnfffaaGreat
open Go.Bur
set_option linter.unusedSimpArgs false
set_option linter.unusedVariables false
set_option maxRecDepth 100000

/-! ### Those for whom one waits -/
def goE {Z : Type} (g : Int → Z → Option Z) (t : Int) : List Edge → Z → Option Z
  | [], z => some z
  | e :: q, z => if e.from_ = t then (g e.to z).bind (goE g t q) else goE g t q z
def stE {Z R : Type} (g : Int → Z → Option Z) (t : Int) (e : Edge) (z : Z) : Option R ⊕ Z := if e.from_ = t then (match g e.to z with | some z' => .inr z' | none => .inl none) else .inr z
theorem runL_go {Z R : Type} {g : Int → Z → Option Z} {t : Int} {fin : Z → R} : ∀ (l : List Edge) (i : Nat) (z : Z), runL (fun _ e z => stE g t e z) (fun z => some (fin z)) l i z = (goE g t l z).map fin
  | [], _, _ => rfl
  | e :: l, i, z => by
    simp only [runL, goE]
    unfold stE
    by_cases h : e.from_ = t
    · simp only [if_pos h]
      cases hg : g e.to z with
      | none => rfl
      | some z' => simp only [Option.bind_some]; exact runL_go l (i + 1) z'
    · simp only [if_neg h]; exact runL_go l (i + 1) z
theorem next0 (n : Nat) (l : List Edge) (hl : l.length ≤ 200) (hn : 202 ≤ n) (t : Int) (g : Int → _ → Option _) (f) (hf : ∀ y z, f y z = (g y.1 z).map fun z' => (0, z')) (z) : waits_next_1_fyd2 n l t f 0 z = (goE g t l z).map fun z' => (f, 0, z') := by
  unfold waits_next_1_fyd2
  show waits_next_1_fyd2_l1 n n (t, l, (l.length : Int), ((0 : Nat) : Int), f, 0, z, ()) = _
  unfold waits_next_1_fyd2_l1
  rw [run_loop l (fun i z => (t, l, (l.length : Int), (i : Int), f, 0, z, ())) (fun _ e z => stE g t e z) (fun z => some (f, 0, z)) ?_ ?_ n 0 z (Nat.zero_le _) (by omega)]
  · rw [List.drop_zero, runL_go]
  · intro r i z x hx hi
    simp only [lt_dec hi, cond_true, idx_nat, hx, Option.bind_some, ibeq]
    unfold stE
    by_cases h : x.from_ = t
    · rw [decide_eq_true h, if_pos h]
      simp only [cond_true, callY, hf]
      cases g x.to z with
      | none => rfl
      | some z' => simp only [Option.map_some, Option.bind_some, Nat.beq_refl, Bool.not_true, cond_false, wrap_succ (show i < 4611686018427387904 by omega)]
    · rw [decide_eq_false h, if_neg h]
      simp only [cond_false, wrap_succ (show i < 4611686018427387904 by omega)]
  · intro r z
    simp only [ge_dec (Nat.lt_irrefl _), cond_false]

/-! ### reached -/
def gW (k : Nat) (y : Int) (z : List (Int × Bool) × List Edge × Unit) : Option (List (Int × Bool) × List Edge × Unit) :=
  (mlook .i64 false z.1 y).bind fun w => if w then some z else (mput .i64 z.1 y true).bind fun m => (waits_reached_1_c2_self k y z.2.1 m).bind fun r => some (r.2, r.1, ())
theorem walk_succ (k : Nat) (hk : 202 ≤ k) (l : List Edge) (hl : l.length ≤ 200) (t : Int) (m : List (Int × Bool)) : waits_reached_1_c2_self (k + 1) t l m = (goE (gW k) t l (m, l, ())).map fun z => (z.2.1, z.1) := by
  show waits_reached_1_c2_self_b k _ t l m = _
  unfold waits_reached_1_c2_self_b
  simp only [waits_next, Option.bind_some]
  rw [next0 k l hl hk t (gW k) _ ?_ (m, l, ())]
  · cases goE (gW k) t l (m, l, ()) with
    | none => rfl
    | some z => rfl
  · intro y z
    unfold gW
    cases mlook .i64 false z.1 y.1 with
    | none => rfl
    | some w =>
      cases w with
      | true => rfl
      | false =>
        simp only [Option.bind_some, jn, Bool.not_false, cond_true, Bool.false_eq_true, if_false]
        cases mput .i64 z.1 y.1 true with
        | none => rfl
        | some m1 =>
          simp only [Option.bind_some]
          show (waits_reached_1_c2_self k y.1 z.2.1 m1).bind _ = _
          cases waits_reached_1_c2_self k y.1 z.2.1 m1 with
          | none => rfl
          | some r => rfl
def AllT (m : List (Int × Bool)) : Prop := ∀ p ∈ m, p.2 = true
theorem mget_allT {x : Int} : ∀ {m : List (Int × Bool)}, AllT m → mget false m x = mhas m x
  | [], _ => rfl
  | (k, v) :: m, h => by
    have hv : v = true := h _ (List.mem_cons_self ..)
    have ih := mget_allT (x := x) (m := m) fun p hp => h p (List.mem_cons_of_mem _ hp)
    subst hv
    by_cases hk : k = x
    · simp [mget, mhas, hk]
    · simp only [mget, mhas, List.any_cons, decide_eq_false hk, Bool.false_or]
      exact ih
theorem look_allT {m : List (Int × Bool)} (h : AllT m) {x : Int} (hx : keyIn .i64 x = true) : mlook .i64 false m x = some (mhas m x) := by
  unfold mlook
  rw [hx, ← mget_allT h]
structure MetI (ns : List Int) (m : List (Int × Bool)) : Prop where
  all : AllT m
  sub : ∀ x, mhas m x = true → x ∈ ns
  len : m.length + unmet ns (mhas m) ≤ 8
structure Walked (l : List Edge) (ns : List Int) (s : Int → Prop) (way : Int → Prop) (m m' : List (Int × Bool)) : Prop where
  inv : MetI ns m'
  mono : ∀ x, mhas m x = true → mhas m' x = true
  less : unmet ns (mhas m') ≤ unmet ns (mhas m)
  new : ∀ x, mhas m' x = true → mhas m x = true ∨ way x
  succ : ∀ c, s c → mhas m' c = true
  closed : ∀ x, mhas m' x = true → mhas m x = false → ∀ c, eR l x c → mhas m' c = true
theorem walk_ok {l : List Edge} {ns : List Int} (hg : GoodE l ns) : ∀ d n t m, unmet ns (mhas m) < d → d + 203 ≤ n → MetI ns m → ∃ m', waits_reached_1_c2_self n t l m = some (l, m') ∧ Walked l ns (eR l t) (Wy (eR l) t) m m' := by
  intro d
  induction d with
  | zero => intro n t m h; omega
  | succ d ih =>
    intro n t m hu hn hm
    obtain ⟨k, rfl⟩ : ∃ k, n = k + 1 := ⟨n - 1, by omega⟩
    have inner : ∀ q : List Edge, (∀ e ∈ q, e ∈ l) → ∀ m1, MetI ns m1 → unmet ns (mhas m1) ≤ d → ∃ m2, goE (gW k) t q (m1, l, ()) = some (m2, l, ()) ∧ Walked l ns (fun c => Edge.mk t c ∈ q) (Wy (eR l) t) m1 m2 := by
      intro q
      induction q with
      | nil => intro _ m1 h1 _; exact ⟨m1, rfl, h1, fun _ h => h, Nat.le_refl _, fun _ h => .inl h, fun c h => (by cases h), fun x h1 h2 => by rw [h1] at h2; cases h2⟩
      | cons e q ihq =>
        intro hq m1 h1 hu1
        have hel := hq e (List.mem_cons_self ..)
        have hq' : ∀ e ∈ q, e ∈ l := fun e he => hq e (List.mem_cons_of_mem _ he)
        by_cases he : e.from_ = t
        · have hmk : Edge.mk t e.to = e := by rw [← he]
          have hc := (hg.ends e hel).2
          simp only [goE, if_pos he]
          unfold gW
          simp only [look_allT h1.all (hg.key _ hc), Option.bind_some]
          cases hh : mhas m1 e.to with
          | true =>
            simp only [if_true, Option.bind_some]
            obtain ⟨m2, e2, w2⟩ := ihq hq' m1 h1 hu1
            refine ⟨m2, e2, w2.inv, w2.mono, w2.less, w2.new, fun c hc2 => ?_, w2.closed⟩
            rcases List.mem_cons.1 hc2 with hc2 | hc2
            · rw [show c = e.to by rw [← hc2]]; exact w2.mono _ hh
            · exact w2.succ c hc2
          | false =>
            have hq1 : ∀ x, mhas ((e.to, true) :: m1) x = (mhas m1 x || decide (x = e.to)) := fun x => by
              simp only [mhas, List.any_cons]
              rw [Bool.or_comm]
              congr 1
              exact decide_eq_decide.2 ⟨Eq.symm, Eq.symm⟩
            have hless := unmet_less hg.nd hc hh hq1
            have hm1 : MetI ns ((e.to, true) :: m1) := by
              refine ⟨fun p hp => ?_, fun x hx => ?_, ?_⟩
              · rcases List.mem_cons.1 hp with rfl | hp
                · rfl
                · exact h1.all p hp
              · rw [hq1, Bool.or_eq_true, decide_eq_true_iff] at hx
                rcases hx with hx | rfl
                · exact h1.sub x hx
                · exact hc
              · have := h1.len; simp only [List.length_cons]; omega
            obtain ⟨m3, e3, w3⟩ := ih k e.to ((e.to, true) :: m1) (by omega) (by omega) hm1
            simp only [Bool.false_eq_true, if_false, mput_ok (hg.key _ hc) (show m1.length ≤ 1000000 by have := h1.len; omega), Option.bind_some, e3]
            have hl3 := w3.less
            obtain ⟨m2, e2, w2⟩ := ihq hq' m3 w3.inv (by omega)
            have mono1 : ∀ x, mhas m1 x = true → mhas m3 x = true := fun x hx => w3.mono x (by rw [hq1, hx]; rfl)
            have hto : mhas m3 e.to = true := w3.mono _ (by rw [hq1]; simp)
            have hedge : eR l t e.to := by show Edge.mk t e.to ∈ l; rw [hmk]; exact hel
            refine ⟨m2, e2, w2.inv, fun x hx => w2.mono x (mono1 x hx), by have := w2.less; omega, fun x hx => ?_, fun c hc2 => ?_, fun x hx hx1 c hxc => ?_⟩
            · rcases w2.new x hx with hx | hx
              · rcases w3.new x hx with hx | hx
                · rw [hq1, Bool.or_eq_true, decide_eq_true_iff] at hx
                  rcases hx with hx | rfl
                  · exact .inl hx
                  · exact .inr (.one hedge)
                · exact .inr (.step hedge hx)
              · exact .inr hx
            · rcases List.mem_cons.1 hc2 with hc2 | hc2
              · rw [show c = e.to by rw [← hc2]]; exact w2.mono _ hto
              · exact w2.succ c hc2
            · cases h3 : mhas m3 x with
              | false => exact w2.closed x hx h3 c hxc
              | true =>
                by_cases hxe : x = e.to
                · subst hxe; exact w2.mono _ (w3.succ c hxc)
                · exact w2.mono _ (w3.closed x h3 (by rw [hq1, hx1, decide_eq_false hxe]; rfl) c hxc)
        · simp only [goE, if_neg he]
          obtain ⟨m2, e2, w2⟩ := ihq hq' m1 h1 hu1
          refine ⟨m2, e2, w2.inv, w2.mono, w2.less, w2.new, fun c hc2 => ?_, w2.closed⟩
          rcases List.mem_cons.1 hc2 with hc2 | hc2
          · exact absurd (by rw [← hc2]) he
          · exact w2.succ c hc2
    obtain ⟨m', e1, w⟩ := inner l (fun _ h => h) m hm (by omega)
    exact ⟨m', by rw [walk_succ k (by omega) l hg.len, e1]; rfl, w⟩
theorem unmet_le {ns : List Int} {p : Int → Bool} : unmet ns p ≤ ns.length := List.length_filter_le _ _
structure ReachM (l : List Edge) (a : Int) (m : List (Int × Bool)) : Prop where
  all : AllT m
  iff : ∀ x, mhas m x = true ↔ Wy (eR l) a x
  len : m.length ≤ 8
theorem reached_ok {l : List Edge} {ns : List Int} (hg : GoodE l ns) (n : Nat) (hn : 1003 ≤ n) (a : Int) : ∃ m, waits_reached n l a = some m ∧ ReachM l a m := by
  have h0 : MetI ns [] := ⟨fun p hp => (by cases hp), fun x hx => by simp [mhas] at hx, by have := unmet_le (ns := ns) (p := mhas ([] : List (Int × Bool))); have := hg.len8; simp only [List.length_nil]; omega⟩
  obtain ⟨m, e, w⟩ := walk_ok hg 9 n a [] (by have := h0.len; simp only [List.length_nil] at this; omega) (by omega) h0
  refine ⟨m, by unfold waits_reached; rw [e]; rfl, w.inv.all, fun x => ⟨fun hx => ?_, fun hx => ?_⟩, by have := w.inv.len; omega⟩
  · rcases w.new x hx with h | h
    · simp [mhas] at h
    · exact h
  · exact hx.closed w.succ fun y c hy hyc => w.closed y hy (by simp [mhas]) c hyc

/-! ### bound, victim -/
theorem way_names {l : List Edge} {a b : Int} (h : Wy (eR l) a b) : a ∈ names l ∧ b ∈ names l := by
  constructor
  · obtain ⟨c, h, _⟩ := h.first
    exact mem_names.2 ⟨_, h, .inl rfl⟩
  · obtain ⟨c, h⟩ := h.last
    exact mem_names.2 ⟨_, h, .inr rfl⟩
open Classical in
noncomputable def bnd (l : List Edge) (t : Int) : List Int := (names l).filter fun x => decide (Wy (eR l) t x ∧ Wy (eR l) x t)
open Classical in
theorem mem_bnd {l : List Edge} {t x : Int} : x ∈ bnd l t ↔ Wy (eR l) t x ∧ Wy (eR l) x t := by
  unfold bnd
  rw [List.mem_filter, decide_eq_true_iff]
  exact ⟨fun h => h.2, fun h => ⟨(way_names h.1).2, h⟩⟩
theorem up_bnd {l : List Edge} {t : Int} : (bnd l t).Pairwise (· < ·) := up_names.filter _
theorem inE (n : Nat) (hn : 1003 ≤ n) (l : List Int) (hl : l.length ≤ 500) (x : Int) : ref09_in n l x = some (decide (x ∈ l)) := by
  unfold ref09_in
  show ref09_in_l1 n n (l, x, ((0 : Nat) : Int), ()) = _
  unfold ref09_in_l1
  rw [run_loop l (fun i (_ : Unit) => (l, x, (i : Int), ())) (fun _ y _ => if decide (y = x) then .inl (some true) else .inr ()) (fun _ => some false) ?_ ?_ n 0 () (Nat.zero_le _) (by omega)]
  · rw [List.drop_zero, runL_any]
    have : l.any (fun y => decide (y = x)) = decide (x ∈ l) := by
      rw [Bool.eq_iff_iff, List.any_eq_true, decide_eq_true_iff]
      exact ⟨fun ⟨y, h1, h2⟩ => of_decide_eq_true h2 ▸ h1, fun h => ⟨x, h, decide_eq_true rfl⟩⟩
    rw [this]
    cases decide (x ∈ l) <;> rfl
  · intro r i s y hy hi
    simp only [lt_dec hi, cond_true, idx_nat, hy, Option.bind_some, ibeq, wrap_succ (show i < 4611686018427387904 by omega)]
    cases decide (y = x) <;> rfl
  · intro r s
    simp only [ge_dec (Nat.lt_irrefl _), cond_false]
/-- One pass over all edges. -/
def pass1 (a : Int) (s : List Int) (e : Edge) : List Int := if e.from_ = a ∨ e.from_ ∈ s then insU s e.to else s
def pass (l : List Edge) (a : Int) (s : List Int) : List Int := l.foldl (pass1 a) s
def iterF {α : Type} (f : α → α) : Nat → α → α
  | 0, x => x
  | k + 1, x => iterF f k (f x)
theorem iterF_succ {α : Type} (f : α → α) : ∀ (k : Nat) (x : α), iterF f (k + 1) x = f (iterF f k x)
  | 0, x => rfl
  | k + 1, x => iterF_succ f k (f x)
structure PassI (l : List Edge) (ns : List Int) (a : Int) (s : List Int) : Prop where
  up : s.Pairwise (· < ·)
  sub : ∀ x ∈ s, x ∈ ns
  way : ∀ x ∈ s, Wy (eR l) a x
theorem PassI.len {l : List Edge} {ns : List Int} (hg : GoodE l ns) {a : Int} {s : List Int} (h : PassI l ns a s) : s.length ≤ 8 := Nat.le_trans (nodup_sub_len (up_nodup h.up) h.sub) hg.len8
theorem PassI.step {l : List Edge} {ns : List Int} (hg : GoodE l ns) {a : Int} {s : List Int} (h : PassI l ns a s) {e : Edge} (he : e ∈ l) : PassI l ns a (pass1 a s e) := by
  unfold pass1
  split
  · rename_i hc
    refine ⟨up_insU h.up, fun x hx => ?_, fun x hx => ?_⟩
    · rcases mem_insU.1 hx with hx | rfl
      · exact h.sub x hx
      · exact (hg.ends e he).2
    · rcases mem_insU.1 hx with hx | rfl
      · exact h.way x hx
      · rcases hc with hc | hc
        · exact .one (by show Edge.mk a e.to ∈ l; rw [← hc]; exact he)
        · exact (h.way _ hc).snoc he
  · exact h
theorem PassI.pass {l : List Edge} {ns : List Int} (hg : GoodE l ns) {a : Int} {s : List Int} (h : PassI l ns a s) : PassI l ns a (pass l a s) := foldl_inv h fun _ _ he hs => hs.step hg he
theorem pass1_mono {a : Int} {s : List Int} {e : Edge} {x : Int} (h : x ∈ s) : x ∈ pass1 a s e := by
  unfold pass1
  split
  · exact mem_insU.2 (.inl h)
  · exact h
theorem pass_mono {a x : Int} : ∀ {l : List Edge} {s : List Int}, x ∈ s → x ∈ pass l a s
  | [], _, h => h
  | e :: l, s, h => pass_mono (l := l) (pass1_mono h)
theorem pass_new {a : Int} : ∀ {l : List Edge} {s : List Int} {e : Edge}, e ∈ l → (e.from_ = a ∨ e.from_ ∈ s) → e.to ∈ pass l a s
  | f :: l, s, e, he, hc => by
    rcases List.mem_cons.1 he with rfl | he
    · refine pass_mono (l := l) ?_
      unfold pass1
      rw [if_pos hc]
      exact mem_insU.2 (.inr rfl)
    · exact pass_new (l := l) he (hc.imp id pass1_mono)
def Shut (l : List Edge) (a : Int) (s : List Int) : Prop := ∀ e ∈ l, e.from_ = a ∨ e.from_ ∈ s → e.to ∈ s
theorem insU_in {x : Int} : ∀ {s : List Int}, s.Pairwise (· < ·) → x ∈ s → insU s x = s := fun {s} h hx => up_ext (up_insU h) h fun y => by
  rw [mem_insU]
  exact ⟨fun h => h.elim id fun e => e ▸ hx, .inl⟩
theorem pass_shut {a : Int} {s : List Int} (hu : s.Pairwise (· < ·)) : ∀ {l : List Edge}, Shut l a s → pass l a s = s
  | [], _ => rfl
  | e :: l, h => by
    show pass l a (pass1 a s e) = s
    have : pass1 a s e = s := by
      unfold pass1
      split
      · rename_i hc; exact insU_in hu (h e (List.mem_cons_self ..) hc)
      · rfl
    rw [this]
    exact pass_shut hu fun f hf => h f (List.mem_cons_of_mem _ hf)
theorem iter_pass {l : List Edge} {ns : List Int} (hg : GoodE l ns) {a : Int} : ∀ k, PassI l ns a (iterF (pass l a) k []) ∧ (Shut l a (iterF (pass l a) k []) ∨ k ≤ (iterF (pass l a) k []).length)
  | 0 => ⟨⟨.nil, fun x h => (by cases h), fun x h => by cases h⟩, .inr (Nat.zero_le _)⟩
  | k + 1 => by
    obtain ⟨h1, h2⟩ := iter_pass hg (a := a) k
    rw [iterF_succ]
    generalize iterF (pass l a) k [] = s at h1 h2
    refine ⟨h1.pass hg, ?_⟩
    by_cases hs : Shut l a s
    · rw [pass_shut h1.up hs]; exact .inl hs
    · right
      have hex : ∃ e ∈ l, (e.from_ = a ∨ e.from_ ∈ s) ∧ e.to ∉ s := Classical.byContradiction fun hn => hs fun e he hc => Classical.byContradiction fun hx => hn ⟨e, he, hc, hx⟩
      obtain ⟨e, he, hc, hx⟩ := hex
      have := nodup_sub_len (l := e.to :: s) (m := pass l a s) (List.nodup_cons.2 ⟨hx, up_nodup h1.up⟩) fun y hy => by
        rcases List.mem_cons.1 hy with rfl | hy
        · exact pass_new he hc
        · exact pass_mono hy
      simp only [List.length_cons] at this
      rcases h2 with h2 | h2
      · exact absurd h2 hs
      · omega
open Classical in
noncomputable def rch (l : List Edge) (a : Int) : List Int := (names l).filter fun x => decide (Wy (eR l) a x)
open Classical in
theorem mem_rch {l : List Edge} {a x : Int} : x ∈ rch l a ↔ Wy (eR l) a x := by
  unfold rch
  rw [List.mem_filter, decide_eq_true_iff]
  exact ⟨fun h => h.2, fun h => ⟨(way_names h).2, h⟩⟩
theorem up_rch {l : List Edge} {t : Int} : (rch l t).Pairwise (· < ·) := up_names.filter _
theorem rch_len {l : List Edge} {ns : List Int} (hg : GoodE l ns) {t : Int} : (rch l t).length ≤ 8 := Nat.le_trans (List.length_filter_le _ _) (hg.names.len8)
theorem iter9 {l : List Edge} {ns : List Int} (hg : GoodE l ns) {a : Int} : iterF (pass l a) 9 [] = rch l a := by
  obtain ⟨h1, h2⟩ := iter_pass hg (a := a) 9
  have h3 := h1.len hg
  have hs : Shut l a (iterF (pass l a) 9 []) := h2.elim id fun h => by omega
  refine up_ext h1.up up_rch fun x => ?_
  rw [mem_rch]
  exact ⟨h1.way x, fun h => h.closed (fun c hc => hs _ hc (.inl rfl)) fun y c hy hc => hs _ hc (.inr hy)⟩
theorem reachE {l : List Edge} {ns : List Int} (hg : GoodE l ns) (n : Nat) (hn : 1003 ≤ n) (a : Int) : ref09_Reach n l a = some (rch l a) := by
  unfold ref09_Reach
  have inner : ∀ (r1 : (List Edge) × Int × Int × (List Int) × Unit → Option ((List Int))) (k : Int) (s : List Int), PassI l ns a s → ref09_Reach_l2 n r1 n (l, a, k, 0, s, ()) = r1 (l, a, IntKind.wrap .i64 (k + 1), pass l a s, ()) := by
    intro r1 k s hs
    have hlen := hg.len
    show ref09_Reach_l2 n r1 n (l, a, k, ((0 : Nat) : Int), s, ()) = _
    unfold ref09_Reach_l2
    rw [run_loopI l (fun i s => (l, a, k, (i : Int), s, ())) (fun _ e s => .inr (pass1 a s e)) (fun s => r1 (l, a, IntKind.wrap .i64 (k + 1), s, ())) (fun _ s => PassI l ns a s) ?_ ?_ ?_ n 0 s (Nat.zero_le _) (by omega) hs]
    · rw [List.drop_zero, runL_fold]; rfl
    · intro i s x s' hx hI h
      cases h
      exact hI.step hg (List.mem_of_getElem? hx)
    · intro r i s x hx hi hI
      have := hI.len hg
      simp only [lt_dec hi, cond_true, idx_nat, hx, Option.bind_some, jn, ref09_Reach_j3, ibeq, inE n hn s (by omega), withN n hn s (by omega) hI.up, wrap_succ (show i < 4611686018427387904 by omega)]
      unfold pass1
      by_cases h1 : x.from_ = a
      · rw [decide_eq_true h1, if_pos (.inl h1)]; rfl
      · rw [decide_eq_false h1]
        simp only [cond_false]
        by_cases h2 : x.from_ ∈ s
        · rw [decide_eq_true h2, if_pos (.inr h2)]; rfl
        · rw [decide_eq_false h2, if_neg (fun h => h.elim h1 h2)]; rfl
    · intro r s hI
      simp only [ge_dec (Nat.lt_irrefl _), cond_false]
  have outer : ∀ (j : Nat) (m k : Nat) (s : List Int), k + j = 9 → j < m → PassI l ns a s → ref09_Reach_l1 n m (l, a, (k : Int), s, ()) = some (iterF (pass l a) j s) := by
    intro j
    induction j with
    | zero =>
      intro m k s hk hm hs
      obtain ⟨m, rfl⟩ : ∃ m', m = m' + 1 := ⟨m - 1, by omega⟩
      unfold ref09_Reach_l1
      simp only [loopF]
      rw [decide_eq_false (by omega)]; rfl
    | succ j ih =>
      intro m k s hk hm hs
      obtain ⟨m, rfl⟩ : ∃ m', m = m' + 1 := ⟨m - 1, by omega⟩
      unfold ref09_Reach_l1
      simp only [loopF]
      rw [decide_eq_true (by omega), cond_true, inner _ _ _ hs, wrap_succ (by omega)]
      exact ih m (k + 1) (pass l a s) (by omega) (by omega) (hs.pass hg)
  rw [← iter9 hg]
  exact outer 9 n 0 [] rfl (by omega) ⟨.nil, fun x h => (by cases h), fun x h => by cases h⟩
theorem rboundE {l : List Edge} {ns : List Int} (hg : GoodE l ns) (n : Nat) (hn : 1003 ≤ n) (t : Int) : ref09_Bound n l t = some (bnd l t) := by
  unfold ref09_Bound
  have hlen := rch_len hg (t := t)
  rw [reachE hg n hn, Option.bind_some]
  show ref09_Bound_l1 n n (l, t, ((0 : Nat) : Int), [], rch l t, ()) = _
  unfold ref09_Bound_l1
  rw [run_loopI (rch l t) (fun i (s : List Int) => (l, t, (i : Int), s, rch l t, ())) (fun _ x s => .inr (if decide (t ∈ rch l x) then s ++ [x] else s)) (fun s => some s) (fun i s => s.length ≤ i) ?_ ?_ ?_ n 0 [] (Nat.zero_le _) (by omega) (Nat.le_refl _)]
  · rw [List.drop_zero, runL_filter, List.nil_append]
    congr 1
    refine up_ext (up_rch.filter _) up_bnd fun x => ?_
    rw [List.mem_filter, mem_rch, decide_eq_true_iff, mem_rch, mem_bnd]
  · intro i s x s' hx hI h
    cases h
    split
    · simp; omega
    · omega
  · intro r i s x hx hi hI
    have := rch_len hg (t := x)
    simp only [lt_dec hi, cond_true, idx_nat, hx, Option.bind_some, jn, ref09_Bound_j2, reachE hg n hn, inE n hn (rch l x) (by omega), wrap_succ (show i < 4611686018427387904 by omega)]
    cases decide (t ∈ rch l x) with
    | true => simp only [cond_true, app_lt (show s.length + [x].length ≤ 1000000 by simp; omega) (show 8 ≤ 1000 by omega), Option.bind_some, if_true]
    | false => simp only [cond_false, Bool.false_eq_true, if_false]
  · intro r s hI
    simp only [ge_dec (Nat.lt_irrefl _), cond_false]
end Go.Proofs.YtegnflodgnfffaaGreat

/- Layer 9 (waits): edges taken away, cycles broken, circles, ways. -/
namespace Go.Proofs.YtegnflodgnfffaaGreat
open Go.Bur
set_option linter.unusedSimpArgs false
set_option linter.unusedVariables false
set_option maxRecDepth 100000

/-! ### Edges without one's -/
/-! ### The victim -/
/-! ### Break -/
end Go.Proofs.YtegnflodgnfffaaGreat

/- Layer 9 (waits): the same edges, the same numbers; circles, and who leads to whom. -/
namespace Go.Proofs.YtegnflodgnfffaaGreat
open Go.Bur
set_option linter.unusedSimpArgs false
set_option linter.unusedVariables false
set_option maxRecDepth 100000

def Circ (l : List Edge) : Prop := ∃ x, Wy (eR l) x x
theorem circ_iff {l : List Edge} : Circ l ↔ ∃ e ∈ l, Wy (eR l) e.to e.from_ := by
  constructor
  · rintro ⟨x, h⟩
    obtain ⟨c, h1, h2⟩ := h.first
    refine ⟨⟨x, c⟩, h1, ?_⟩
    rcases h2 with rfl | h2
    · exact h
    · exact h2
  · rintro ⟨e, he, h⟩
    exact ⟨e.from_, .step he h⟩
theorem circ_bnd {l : List Edge} : Circ l ↔ ∃ x ∈ names l, 0 < (bnd l x).length := by
  constructor
  · rintro ⟨x, h⟩
    exact ⟨x, (way_names h).1, List.length_pos_of_mem (mem_bnd.2 ⟨h, h⟩)⟩
  · rintro ⟨x, _, h⟩
    obtain ⟨y, hy⟩ := List.exists_mem_of_length_pos h
    exact ⟨x, (mem_bnd.1 hy).1.trans (mem_bnd.1 hy).2⟩
open Classical in
theorem circles1E {l : List Edge} {ns : List Int} (hg : GoodE l ns) (n : Nat) (hn : 1003 ≤ n) (e : Edge) (he : e ∈ l) : waits_Circles_1 n e l = some (decide (Wy (eR l) e.to e.from_)) := by
  obtain ⟨m, e1, w⟩ := reached_ok hg n hn e.to
  unfold waits_Circles_1
  simp only [e1, Option.bind_some, look_allT w.all (hg.key _ (hg.ends e he).1)]
  congr 1
  rw [Bool.eq_iff_iff, w.iff, decide_eq_true_iff]
open Classical in
theorem containsC {l : List Edge} {ns : List Int} (hg : GoodE l ns) (n : Nat) (hn : 1003 ≤ n) : slices_ContainsFunc_Edge_f67 n l l = some (decide (Circ l)) := by
  have hlen := hg.len
  unfold slices_ContainsFunc_Edge_f67
  have h1 : slices_IndexFunc_Edge_f67 n l l = some (match l.findIdx? (fun e => decide (Wy (eR l) e.to e.from_)) with | some j => (j : Int) | none => -1) := by
    unfold slices_IndexFunc_Edge_f67
    show slices_IndexFunc_Edge_f67_l1 n n (l, l, (l.length : Int), ((0 : Nat) : Int), ()) = _
    unfold slices_IndexFunc_Edge_f67_l1
    rw [run_loop l (fun i (_ : Unit) => (l, l, (l.length : Int), (i : Int), ())) (fun i x _ => if decide (Wy (eR l) x.to x.from_) then .inl (some (i : Int)) else .inr ()) (fun _ => some (-1)) ?_ ?_ n 0 () (Nat.zero_le _) (by omega)]
    · rw [List.drop_zero, runL_find0 (f := fun i => some (i : Int))]
      cases l.findIdx? (fun e => decide (Wy (eR l) e.to e.from_)) with
      | none => rfl
      | some j => simp
    · intro r i s x hx hi
      simp only [lt_dec hi, cond_true, idx_nat, hx, Option.bind_some, circles1E hg n hn x (List.mem_of_getElem? hx), wrap_succ (show i < 4611686018427387904 by omega)]
      cases decide (Wy (eR l) x.to x.from_) <;> rfl
    · intro r s
      simp only [ge_dec (Nat.lt_irrefl _), cond_false]
  rw [h1, Option.bind_some]
  congr 1
  rw [Bool.eq_iff_iff, decide_eq_true_iff (p := Circ l), circ_iff]
  cases hf : l.findIdx? (fun e => decide (Wy (eR l) e.to e.from_)) with
  | none =>
    have := List.findIdx?_eq_none_iff.1 hf
    simp only [show ¬ ((-1 : Int) ≥ 0) by omega, decide_false, Bool.false_eq_true, false_iff]
    rintro ⟨e, he, h⟩
    have := this e he
    rw [decide_eq_true h] at this; cases this
  | some j =>
    obtain ⟨hj, h2, _⟩ := List.findIdx?_eq_some_iff_getElem.1 hf
    simp only [show ((j : Int) ≥ 0) by omega, decide_true, true_iff]
    exact ⟨l[j], List.getElem_mem hj, of_decide_eq_true h2⟩
open Classical in
theorem circlesE (n : Nat) (hn : 1003 ≤ n) (l : List Edge) (hl : l.length ≤ 200) (hk : KeysIn l) : waits_Circles n l = some (rightP l && decide (Circ l)) := by
  unfold waits_Circles
  simp only [rightE n hn l (by omega) hk, Option.bind_some, jn]
  cases hr : rightP l with
  | false => rfl
  | true => simp only [cond_true, containsC (right_good hl hk hr) n hn, Option.bind_some, Bool.true_and]
end Go.Proofs.YtegnflodgnfffaaGreat

/- Layer 9 (waits): long rows of edges; more edges laid in; circles. -/
namespace Go.Proofs.YtegnflodgnfffaaGreat
open Go.Bur
set_option linter.unusedSimpArgs false
set_option linter.unusedVariables false
set_option maxRecDepth 100000

theorem rightG (n : Nat) (hn : 60003 ≤ n) (l : List Edge) (hl : l.length ≤ 20000) (hk : KeysIn l) : waits_right n l = some (rightP l) := by
  unfold waits_right
  show waits_right_l1 n n (l, l, (l.length : Int), ((0 : Nat) : Int), [], ()) = _
  unfold waits_right_l1
  rw [run_loopI l (fun i s => (l, l, (l.length : Int), (i : Int), s, ())) (fun i x s => if stepA mayB ltE l i x then .inr (metE x s) else .inl (some false)) (fun s => some (decide (((mkeys s).length : Int) ≤ 8))) (fun i s => s.length = 2 * i) ?_ ?_ ?_ n 0 _ (Nat.zero_le _) (by omega) rfl]
  · rw [List.drop_zero, runL_chk, allFrom_chain]
    unfold rightP chainE met
    cases chainB mayB ltE none l with
    | false => rfl
    | true => simp only [if_true, Bool.true_and]; congr 1; exact decide_eq_decide.2 (by omega)
  · intro i s x s' hx hI h
    split at h
    · cases h
      show (metE x s).length = _
      simp only [metE, List.length_cons]; omega
    · cases h
  · intro r i s x hx hi hI
    have hm := hk x (List.mem_of_getElem? hx)
    simp only [lt_dec hi, cond_true, idx_nat, hx, Option.bind_some, mayE, jn]
    have hput : ((mput .i64 s x.from_ true).bind fun l10 => (mput .i64 l10 x.to true).bind fun l11 => r (l, l, (l.length : Int), IntKind.wrap .i64 ((i : Int) + 1), l11, ())) = r (l, l, (l.length : Int), ((i + 1 : Nat) : Int), metE x s, ()) := by
      rw [mput_ok hm.1 (by omega), Option.bind_some, mput_ok hm.2 (by simp only [List.length_cons]; omega), Option.bind_some, wrap_succ (by omega)]; rfl
    unfold stepA
    cases hb : mayB x with
    | false => rfl
    | true =>
      simp only [Bool.not_true, cond_false, Bool.true_and]
      cases i with
      | zero =>
        rw [decide_eq_false (by omega)]
        simp only [cond_false, prevO, prevOk, if_true]
        exact hput
      | succ j =>
        rw [decide_eq_true (by omega)]
        simp only [cond_true, wrap_pred (show j < 4611686018427387904 by omega), idx_nat, get_some (show j < l.length by omega), Option.bind_some, compareE n (by omega), cE_ge, prevO, prevOk]
        cases ltE l[j] x with
        | true => simp only [Bool.not_true, cond_false, if_true]; exact hput
        | false => rfl
  · intro r s hI
    simp only [ge_dec (Nat.lt_irrefl _), cond_false]
theorem withG (n : Nat) (hn : 60003 ≤ n) (l : List Int) (hl : l.length ≤ 50000) (hu : l.Pairwise (· < ·)) (x : Int) : ref09_with n l x = some (insU l x) := by
  unfold ref09_with
  show ref09_with_l1 n n (l, x, false, ((0 : Nat) : Int), [], ()) = _
  unfold ref09_with_l1
  rw [run_loopI l (fun i (s : Bool × List Int) => (l, x, s.1, (i : Int), s.2, ())) (fun _ y s => .inr (layW x y s)) (fun s => some (layF x s)) (fun i s => s.2.length ≤ 2 * i) ?_ ?_ ?_ n 0 (false, []) (Nat.zero_le _) (by omega) (Nat.le_refl _)]
  · rw [List.drop_zero, runL_fold, layW_off hu]; rfl
  · intro i s y s' hy hI h
    cases h
    have := layW_len (n := x) (x := y) (s := s); omega
  · intro r i s y hy hi hI
    simp only [lt_dec hi, cond_true, idx_nat, hy, Option.bind_some, jn, ref09_with_j2, ref09_with_j3, ibeq]
    unfold layW
    obtain ⟨d, acc⟩ := s
    simp only at hI ⊢
    have ha : ∀ (q : List Int), q.length ≤ 200000 → ∀ z : Int, app 8 q [z] = some (q ++ [z]) := fun q hq z => app_lt (by simp; omega) (by omega)
    by_cases he : y = x
    · rw [decide_eq_true he, if_pos he]
      simp only [cond_true, Bool.not_true, cond_false, hy, Option.bind_some, ha acc (by omega), Bool.false_and, Bool.false_eq_true, if_false, wrap_succ (show i < 4611686018427387904 by omega)]
    · rw [decide_eq_false he, if_neg he]
      simp only [cond_false]
      cases d with
      | true => simp only [cond_true, Bool.not_true, cond_false, hy, Option.bind_some, ha acc (by omega), Bool.false_and, Bool.false_eq_true, if_false, wrap_succ (show i < 4611686018427387904 by omega)]
      | false =>
        simp only [Bool.not_false, cond_true, hy, Option.bind_some, Bool.true_and]
        by_cases hlt : x < y
        · simp only [decide_eq_true hlt, cond_true, ha acc (by omega), Option.bind_some, hy, if_true, ha (acc ++ [x]) (by simp; omega), wrap_succ (show i < 4611686018427387904 by omega)]
        · simp only [decide_eq_false hlt, cond_false, hy, Option.bind_some, ha acc (by omega), Bool.false_eq_true, if_false, wrap_succ (show i < 4611686018427387904 by omega)]
  · intro r s hI
    simp only [ge_dec (Nat.lt_irrefl _), cond_false, jn, ref09_with_j4]
    unfold layF
    obtain ⟨d, acc⟩ := s
    cases d with
    | true => rfl
    | false =>
      simp only [Bool.not_false, cond_true, app_lt (show acc.length + [x].length ≤ 1000000 by simp at hI ⊢; omega) (show 8 ≤ 1000 by omega), Option.bind_some, Bool.false_eq_true, if_false]
theorem namesG (n : Nat) (hn : 60003 ≤ n) (l : List Edge) (hl : l.length ≤ 20000) : ref09_Names n l = some (names l) := by
  unfold ref09_Names
  show ref09_Names_l1 n n (l, ((0 : Nat) : Int), [], ()) = _
  unfold ref09_Names_l1
  rw [run_loopI l (fun i (s : List Int) => (l, (i : Int), s, ())) (fun _ e s => .inr (insU (insU s e.from_) e.to)) (fun s => some s) (fun i s => s.length ≤ 2 * i ∧ s.Pairwise (· < ·)) ?_ ?_ ?_ n 0 [] (Nat.zero_le _) (by omega) ⟨Nat.le_refl _, .nil⟩]
  · rw [List.drop_zero, runL_fold]; rfl
  · intro i s y s' hy hI h
    cases h
    have h1 := insU_len (n := y.from_) (l := s)
    have h2 := insU_len (n := y.to) (l := insU s y.from_)
    exact ⟨by omega, up_insU (up_insU hI.2)⟩
  · intro r i s y hy hi hI
    have h1 := insU_len (n := y.from_) (l := s)
    simp only [lt_dec hi, cond_true, idx_nat, hy, Option.bind_some, withG n hn s (by omega) hI.2, withG n hn _ (show (insU s y.from_).length ≤ 50000 by omega) (up_insU hI.2), wrap_succ (show i < 4611686018427387904 by omega)]
  · intro r s hI
    simp only [ge_dec (Nat.lt_irrefl _), cond_false]
theorem rrightG (n : Nat) (hn : 60003 ≤ n) (l : List Edge) (hl : l.length ≤ 20000) : ref09_Right n l = some (rightP l) := by
  unfold ref09_Right
  show ref09_Right_l1 n n (l, ((0 : Nat) : Int), ()) = _
  unfold ref09_Right_l1
  rw [run_loop l (fun i (_ : Unit) => (l, (i : Int), ())) (fun i x _ => if stepA mayB ltE l i x then .inr () else .inl (some false)) (fun _ => some (decide (((names l).length : Int) ≤ 8))) ?_ ?_ n 0 () (Nat.zero_le _) (by omega)]
  · rw [List.drop_zero, runL_allFrom, allFrom_chain]
    unfold rightP chainE
    cases chainB mayB ltE none l with
    | false => rfl
    | true => simp only [if_true, Bool.true_and, names_len]; congr 1; exact decide_eq_decide.2 (by omega)
  · intro r i s x hx hi
    simp only [lt_dec hi, cond_true, idx_nat, hx, Option.bind_some, jn, ibeq]
    unfold stepA mayB
    by_cases h1 : x.from_ ≤ 0
    · rw [decide_eq_true h1, decide_eq_false (show ¬ (0 < x.from_ ∧ 0 < x.to ∧ x.from_ ≠ x.to) by omega)]; rfl
    · rw [decide_eq_false h1]
      simp only [cond_false]
      by_cases h2 : x.to ≤ 0
      · rw [decide_eq_true h2, decide_eq_false (show ¬ (0 < x.from_ ∧ 0 < x.to ∧ x.from_ ≠ x.to) by omega)]; rfl
      · rw [decide_eq_false h2]
        simp only [cond_false]
        by_cases h3 : x.from_ = x.to
        · rw [decide_eq_true h3, decide_eq_false (show ¬ (0 < x.from_ ∧ 0 < x.to ∧ x.from_ ≠ x.to) by omega)]; rfl
        · rw [decide_eq_false h3, decide_eq_true (show 0 < x.from_ ∧ 0 < x.to ∧ x.from_ ≠ x.to by omega)]
          simp only [cond_false, Bool.true_and]
          cases i with
          | zero =>
            rw [decide_eq_false (by omega)]
            simp only [cond_false, prevO, prevOk, if_true, wrap_succ (show 0 < 4611686018427387904 by omega)]
          | succ j =>
            rw [decide_eq_true (by omega)]
            simp only [cond_true, wrap_pred (show j < 4611686018427387904 by omega), idx_nat, hx, get_some (show j < l.length by omega), Option.bind_some, beforeE, prevO, prevOk]
            cases ltE l[j] x with
            | true => simp only [Bool.not_true, cond_false, if_true, wrap_succ (show j + 1 < 4611686018427387904 by omega)]
            | false => rfl
  · intro r s
    simp only [ge_dec (Nat.lt_irrefl _), cond_false, namesG n hn l hl, Option.bind_some]

/-! ### Edges that may be are few -/
theorem nodup_sub_lenE {l m : List Edge} (h1 : l.Nodup) (h : ∀ x ∈ l, x ∈ m) : l.length ≤ m.length := by
  induction l generalizing m with
  | nil => simp
  | cons x l ih =>
    obtain ⟨a1, a2⟩ := List.nodup_cons.1 h1
    have hm := h x (List.mem_cons_self ..)
    have := ih (m := m.erase x) a2 fun y hy => by
      have hne : y ≠ x := fun e => a1 (e ▸ hy)
      exact (List.mem_erase_of_ne hne).2 (h y (List.mem_cons_of_mem _ hy))
    rw [List.length_erase_of_mem hm] at this
    have := List.length_pos_of_mem hm
    simp only [List.length_cons]; omega
theorem ltE_irr {a b : Edge} (h : ltE a b = true) : a ≠ b := fun e => by
  subst e
  rw [ltE_iff] at h; omega
theorem srt_nodup {l : List Edge} (h : l.Pairwise fun a b => ltE a b = true) : l.Nodup := h.imp fun h => ltE_irr h
theorem flat_len (f : Int → Int → Edge) (ms : List Int) : ∀ ns : List Int, (ns.flatMap fun a => ms.map (f a)).length = ns.length * ms.length
  | [] => by simp
  | a :: ns => by
    rw [List.flatMap_cons, List.length_append, flat_len f ms ns, List.length_map, List.length_cons, Nat.succ_mul]; omega
theorem right_short {l : List Edge} (h : rightP l = true) : l.length ≤ 64 := by
  unfold rightP chainE at h
  rw [Bool.and_eq_true, chain_iff ltE_trans, decide_eq_true_iff, ← names_len] at h
  obtain ⟨⟨h1, h2, _⟩, h3⟩ := h
  have hs := nodup_sub_lenE (m := (names l).flatMap fun a => (names l).map (Edge.mk a)) (srt_nodup h2) fun e he => List.mem_flatMap.2 ⟨e.from_, mem_names.2 ⟨e, he, .inl rfl⟩, List.mem_map.2 ⟨e.to, mem_names.2 ⟨e, he, .inr rfl⟩, rfl⟩⟩
  rw [flat_len Edge.mk] at hs
  have := Nat.mul_le_mul h3 h3
  omega
open Classical in
theorem circlesG (n : Nat) (hn : 60003 ≤ n) (l : List Edge) (hl : l.length ≤ 20000) (hk : KeysIn l) : waits_Circles n l = some (rightP l && decide (Circ l)) := by
  cases hr : rightP l with
  | false =>
    unfold waits_Circles
    simp only [rightG n hn l hl hk, hr, Option.bind_some, jn]
    rfl
  | true => rw [circlesE n (by omega) l (by have := right_short hr; omega) hk, hr]

/-! ### Edges laid in -/
def insE : List Edge → Edge → List Edge
  | [], n => [n]
  | x :: l, n => if ltE n x then n :: x :: l else if x = n then x :: l else x :: insE l n
theorem mem_insE {x n : Edge} : ∀ {l : List Edge}, x ∈ insE l n ↔ x ∈ l ∨ x = n
  | [] => by simp [insE]
  | y :: l => by
    unfold insE
    split
    · simp only [List.mem_cons]
      constructor
      · rintro (h | h | h)
        · exact .inr h
        · exact .inl (.inl h)
        · exact .inl (.inr h)
      · rintro ((h | h) | h)
        · exact .inr (.inl h)
        · exact .inr (.inr h)
        · exact .inl h
    · split
      · rename_i h; subst h
        simp only [List.mem_cons]
        constructor
        · exact .inl
        · rintro (h | h)
          · exact h
          · exact .inl h
      · simp only [List.mem_cons, mem_insE (l := l)]
        constructor
        · rintro (h | h | h)
          · exact .inl (.inl h)
          · exact .inl (.inr h)
          · exact .inr h
        · rintro ((h | h) | h)
          · exact .inl h
          · exact .inr (.inl h)
          · exact .inr (.inr h)
theorem ltE_or {a b : Edge} (h : ltE a b = false) (hne : b ≠ a) : ltE b a = true := by
  rw [ltE_iff]
  have h : ¬ (a.from_ < b.from_ ∨ a.from_ = b.from_ ∧ a.to < b.to) := fun k => by rw [ltE_iff.2 k] at h; cases h
  by_cases h1 : a.from_ = b.from_
  · by_cases h2 : a.to = b.to
    · exact absurd (by cases a; cases b; simp_all) hne
    · omega
  · omega
theorem up_insE {n : Edge} : ∀ {l : List Edge}, l.Pairwise (fun a b => ltE a b = true) → (insE l n).Pairwise fun a b => ltE a b = true
  | [], _ => by simp [insE]
  | y :: l, h => by
    obtain ⟨h1, h2⟩ := List.pairwise_cons.1 h
    unfold insE
    split
    · rename_i hn
      refine List.pairwise_cons.2 ⟨fun z hz => ?_, h⟩
      rcases List.mem_cons.1 hz with rfl | hz
      · exact hn
      · exact ltE_trans _ _ _ hn (h1 z hz)
    · split
      · exact h
      · rename_i h3 h4
        refine List.pairwise_cons.2 ⟨fun z hz => ?_, up_insE h2⟩
        rcases mem_insE.1 hz with hz | rfl
        · exact h1 z hz
        · exact ltE_or (by simpa using h3) h4
theorem insE_len {n : Edge} : ∀ {l : List Edge}, (insE l n).length ≤ l.length + 1
  | [] => by simp [insE]
  | y :: l => by
    have := insE_len (n := n) (l := l)
    unfold insE
    split
    · simp
    · split
      · simp
      · simp only [List.length_cons]; omega
def layX (n x : Edge) (s : Bool × List Edge) : Bool × List Edge :=
  let d := if x = n then true else s.1
  if !d && ltE n x then (true, s.2 ++ [n] ++ [x]) else (d, s.2 ++ [x])
def layZ (n : Edge) (s : Bool × List Edge) : List Edge := if s.1 then s.2 else s.2 ++ [n]
theorem layX_on {n : Edge} : ∀ {l : List Edge} {acc : List Edge}, l.foldl (fun s x => layX n x s) (true, acc) = (true, acc ++ l)
  | [], acc => by simp
  | x :: l, acc => by
    rw [List.foldl_cons]
    have e : layX n x (true, acc) = (true, acc ++ [x]) := by unfold layX; simp
    rw [e, layX_on]; simp
theorem layX_off {n : Edge} : ∀ {l : List Edge} {acc : List Edge}, l.Pairwise (fun a b => ltE a b = true) → layZ n (l.foldl (fun s x => layX n x s) (false, acc)) = acc ++ insE l n
  | [], acc, _ => rfl
  | x :: l, acc, h => by
    obtain ⟨h1, h2⟩ := List.pairwise_cons.1 h
    rw [List.foldl_cons]
    unfold insE
    by_cases hlt : ltE n x = true
    · have e : layX n x (false, acc) = (true, acc ++ [n] ++ [x]) := by
        unfold layX
        rw [if_neg (ltE_irr hlt).symm, hlt]; rfl
      rw [e, layX_on, if_pos hlt]
      simp [layZ]
    · rw [if_neg hlt]
      have hlt : ltE n x = false := by simpa using hlt
      by_cases he : x = n
      · have e : layX n x (false, acc) = (true, acc ++ [x]) := by
          unfold layX
          rw [if_pos he]; rfl
        rw [e, layX_on, if_pos he]
        simp [layZ]
      · have e : layX n x (false, acc) = (false, acc ++ [x]) := by
          unfold layX
          rw [if_neg he, hlt]; rfl
        rw [e, layX_off h2, if_neg he]; simp
theorem layX_len {n x : Edge} {s : Bool × List Edge} : (layX n x s).2.length ≤ s.2.length + 2 := by
  obtain ⟨d, acc⟩ := s
  by_cases h1 : x = n
  · simp [layX, h1]
  · by_cases h2 : ltE n x = true <;> cases d <;> simp [layX, h1, h2]
theorem addE (n : Nat) (hn : 60003 ≤ n) (more : List Edge) (hm : more.length ≤ 10000) (l : List Edge) (hl : l.length ≤ 10000) (hu : l.Pairwise fun a b => ltE a b = true) : ref09_Add n l more = some (more.foldl insE l) := by
  unfold ref09_Add
  show ref09_Add_l1 n n (more, l, ((0 : Nat) : Int), ()) = _
  unfold ref09_Add_l1
  rw [run_loopI more (fun i (s : List Edge) => (more, s, (i : Int), ())) (fun _ e s => .inr (insE s e)) (fun s => some s) (fun i s => s.length ≤ 10000 + i ∧ s.Pairwise fun a b => ltE a b = true) ?_ ?_ ?_ n 0 l (Nat.zero_le _) (by omega) ⟨by omega, hu⟩]
  · rw [List.drop_zero, runL_fold (g := fun e s => insE s e)]
  · intro i s e s' hx hI h
    cases h
    have := insE_len (n := e) (l := s)
    exact ⟨by omega, up_insE hI.2⟩
  · intro r i s e hx hi hI
    simp only [lt_dec hi, cond_true]
    show ref09_Add_l2 n r n (more, s, (i : Int), false, ((0 : Nat) : Int), [], ()) = _
    unfold ref09_Add_l2
    rw [run_loopI s (fun k (z : Bool × List Edge) => (more, s, (i : Int), z.1, (k : Int), z.2, ())) (fun _ y z => .inr (layX e y z)) (fun z => r (more, layZ e z, ((i + 1 : Nat) : Int), ())) (fun k z => z.2.length ≤ 2 * k) ?_ ?_ ?_ n 0 (false, []) (Nat.zero_le _) (by omega) (Nat.le_refl _)]
    · rw [List.drop_zero, runL_fold (g := fun y z => layX e y z), layX_off hI.2]; rfl
    · intro k z y z' hy hz h
      cases h
      have := layX_len (n := e) (x := y) (s := z); omega
    · intro r2 k z y hy hk hz
      simp only [lt_dec hk, cond_true, idx_nat, hy, hx, Option.bind_some, jn, ref09_Add_j3, ref09_Add_j4, edge_eqb, beforeE]
      unfold layX
      obtain ⟨d, acc⟩ := z
      simp only at hz ⊢
      have ha : ∀ (q : List Edge), q.length ≤ 100000 → ∀ z : Edge, app 16 q [z] = some (q ++ [z]) := fun q hq z => app_lt (by simp; omega) (by omega)
      by_cases he : y = e
      · rw [decide_eq_true he, if_pos he]
        simp only [cond_true, Bool.not_true, cond_false, hy, Option.bind_some, ha acc (by omega), Bool.false_and, Bool.false_eq_true, if_false, wrap_succ (show k < 4611686018427387904 by omega)]
      · rw [decide_eq_false he, if_neg he]
        simp only [cond_false]
        cases d with
        | true => simp only [cond_true, Bool.not_true, cond_false, hy, Option.bind_some, ha acc (by omega), Bool.false_and, Bool.false_eq_true, if_false, wrap_succ (show k < 4611686018427387904 by omega)]
        | false =>
          simp only [Bool.not_false, cond_true, hy, Option.bind_some, Bool.true_and]
          cases hlt : ltE e y with
          | true => simp only [cond_true, ha acc (by omega), Option.bind_some, hy, if_true, ha (acc ++ [e]) (by simp; omega), wrap_succ (show k < 4611686018427387904 by omega)]
          | false => simp only [cond_false, hy, Option.bind_some, ha acc (by omega), Bool.false_eq_true, if_false, wrap_succ (show k < 4611686018427387904 by omega)]
    · intro r2 z hz
      simp only [ge_dec (Nat.lt_irrefl _), cond_false, jn, ref09_Add_j5, wrap_succ (show i < 4611686018427387904 by omega)]
      unfold layZ
      obtain ⟨d, acc⟩ := z
      have hz : acc.length ≤ 2 * s.length := hz
      cases d with
      | true => rfl
      | false =>
        simp only [Bool.not_false, cond_true, idx_nat, hx, app_lt (show acc.length + [e].length ≤ 1000000 by simp; omega) (show 16 ≤ 1000 by omega), Option.bind_some, Bool.false_eq_true, if_false]
  · intro r s hI
    simp only [ge_dec (Nat.lt_irrefl _), cond_false]
theorem mem_adds {x : Edge} : ∀ {more l : List Edge}, x ∈ more.foldl insE l ↔ x ∈ l ∨ x ∈ more
  | [], l => by simp
  | e :: more, l => by
    rw [List.foldl_cons, mem_adds (more := more), mem_insE, List.mem_cons]
    constructor
    · rintro ((h | h) | h)
      · exact .inl h
      · exact .inr (.inl h)
      · exact .inr (.inr h)
    · rintro (h | h | h)
      · exact .inl (.inl h)
      · exact .inl (.inr h)
      · exact .inr h
theorem up_adds {more l : List Edge} (h : l.Pairwise fun a b => ltE a b = true) : (more.foldl insE l).Pairwise fun a b => ltE a b = true :=
  foldl_inv (I := fun s : List Edge => s.Pairwise fun a b => ltE a b = true) h fun s e _ h => up_insE h
theorem adds_len : ∀ {more l : List Edge}, (more.foldl insE l).length ≤ l.length + more.length
  | [], l => by simp
  | e :: more, l => by
    have h1 := adds_len (more := more) (l := insE l e)
    have h2 := insE_len (n := e) (l := l)
    rw [List.foldl_cons, List.length_cons]; omega
theorem srtE_ext : ∀ {l m : List Edge}, l.Pairwise (fun a b => ltE a b = true) → m.Pairwise (fun a b => ltE a b = true) → (∀ x, x ∈ l ↔ x ∈ m) → l = m
  | [], [], _, _, _ => rfl
  | [], y :: m, _, _, h => absurd ((h y).2 (List.mem_cons_self ..)) (by simp)
  | x :: l, [], _, _, h => absurd ((h x).1 (List.mem_cons_self ..)) (by simp)
  | x :: l, y :: m, h1, h2, h => by
    obtain ⟨a1, a2⟩ := List.pairwise_cons.1 h1
    obtain ⟨b1, b2⟩ := List.pairwise_cons.1 h2
    have anti : ∀ {a b : Edge}, ltE a b = true → ltE b a = true → False := fun h k => by
      rw [ltE_iff] at h k; omega
    have e : x = y := by
      have hx := (h x).1 (List.mem_cons_self ..)
      have hy := (h y).2 (List.mem_cons_self ..)
      rcases List.mem_cons.1 hx with e | hx
      · exact e
      · rcases List.mem_cons.1 hy with e | hy
        · exact e.symm
        · exact absurd (b1 x hx) fun k => anti (a1 y hy) k
    subst e
    congr 1
    refine srtE_ext a2 b2 fun z => ?_
    constructor
    · intro hz
      rcases List.mem_cons.1 ((h z).1 (List.mem_cons_of_mem _ hz)) with e | hm
      · subst e; exact absurd rfl (ltE_irr (a1 z hz))
      · exact hm
    · intro hz
      rcases List.mem_cons.1 ((h z).2 (List.mem_cons_of_mem _ hz)) with e | hm
      · subst e; exact absurd rfl (ltE_irr (b1 z hz))
      · exact hm
end Go.Proofs.YtegnflodgnfffaaGreat

/- Layers 7 and 8 (modes, locks): modes; which queues may be, by the code and by the document. -/
namespace Go.Proofs.YtegnflodgnfffaaGreat
open Go.Bur
set_option linter.unusedSimpArgs false
set_option linter.unusedVariables false
set_option maxRecDepth 100000

/-! ### Modes -/
def isM (a : Int) : Bool := decide (0 ≤ a ∧ a ≤ 6)
theorem isM_cases {a : Int} (h : isM a = true) : a = 0 ∨ a = 1 ∨ a = 2 ∨ a = 3 ∨ a = 4 ∨ a = 5 ∨ a = 6 := by
  have := of_decide_eq_true h; omega
def coversB (a b : Int) : Bool := isM a && isM b && (decide (a = b) || decide (b = 0) || decide (a = 5) || decide (b = 1 ∧ (a = 2 ∨ a = 3 ∨ a = 4)) || decide (a = 4 ∧ (b = 2 ∨ b = 3)))
def goesB (a b : Int) : Bool := isM a && isM b && (decide (a = 0) || decide (b = 0) || decide (a = 1 ∧ b ≤ 4) || decide (b = 1 ∧ a ≤ 4) || decide (a = 2 ∧ b = 2) || decide (a = 3 ∧ b = 3) || decide (a = 6 ∧ b = 6))
def keyM (a : Int) : Bool := decide (a = 0 ∨ a = 3 ∨ a = 5 ∨ a = 6)
def tabM (a : Int) : Bool := isM a && !decide (a = 6)
theorem mode_is_eq (n : Nat) (a : Int) : mode_is n a = some (isM a) := by
  unfold mode_is isM
  simp only [jn]
  by_cases h1 : a ≥ 0
  · rw [decide_eq_true h1]
    simp only [cond_true]
    congr 1
    exact decide_eq_decide.2 (by omega)
  · rw [decide_eq_false h1, decide_eq_false (show ¬ (0 ≤ a ∧ a ≤ 6) by omega)]; rfl
theorem ref_is_eq (n : Nat) (a : Int) : ref07_Is n a = some (isM a) := by
  unfold ref07_Is isM
  simp only [jn]
  by_cases h1 : a ≥ 0
  · rw [decide_eq_true h1]
    simp only [cond_true]
    congr 1
    exact decide_eq_decide.2 (by omega)
  · rw [decide_eq_false h1, decide_eq_false (show ¬ (0 ≤ a ∧ a ≤ 6) by omega)]; rfl
theorem covers_eq (n : Nat) (hn : 20 ≤ n) (a b : Int) : mode_Covers n a b = some (coversB a b) := by
  obtain ⟨n, rfl⟩ : ∃ m, n = m + 20 := ⟨n - 20, by omega⟩
  cases ha : isM a with
  | false => unfold mode_Covers coversB; simp only [mode_is_eq, ha, Option.bind_some, jn, cond_false, Bool.false_and]
  | true =>
    cases hb : isM b with
    | false => unfold mode_Covers coversB; simp only [mode_is_eq, ha, hb, Option.bind_some, jn, cond_true, cond_false, Bool.false_and, Bool.and_false]
    | true =>
      rcases isM_cases ha with rfl | rfl | rfl | rfl | rfl | rfl | rfl <;> rcases isM_cases hb with rfl | rfl | rfl | rfl | rfl | rfl | rfl <;> kernel_rfl
theorem goes_eq (n : Nat) (hn : 20 ≤ n) (a b : Int) : mode_Goes n a b = some (goesB a b) := by
  obtain ⟨n, rfl⟩ : ∃ m, n = m + 20 := ⟨n - 20, by omega⟩
  cases ha : isM a with
  | false => unfold mode_Goes goesB; simp only [mode_is_eq, ha, Option.bind_some, jn, cond_false, Bool.false_and]
  | true =>
    cases hb : isM b with
    | false => unfold mode_Goes goesB; simp only [mode_is_eq, ha, hb, Option.bind_some, jn, cond_true, cond_false, Bool.false_and, Bool.and_false]
    | true =>
      rcases isM_cases ha with rfl | rfl | rfl | rfl | rfl | rfl | rfl <;> rcases isM_cases hb with rfl | rfl | rfl | rfl | rfl | rfl | rfl <;> kernel_rfl
theorem rgoes_eq (n : Nat) (a b : Int) : ref07_Goes n a b = some (goesB a b) := by
  cases ha : isM a with
  | false => unfold ref07_Goes goesB; simp only [ref_is_eq, ha, Option.bind_some, jn, cond_true, Bool.not_false, Bool.false_and]
  | true =>
    cases hb : isM b with
    | false => unfold ref07_Goes goesB; simp only [ref_is_eq, ha, hb, Option.bind_some, jn, cond_true, cond_false, Bool.not_true, Bool.not_false, Bool.false_and, Bool.and_false]
    | true =>
      rcases isM_cases ha with rfl | rfl | rfl | rfl | rfl | rfl | rfl <;> rcases isM_cases hb with rfl | rfl | rfl | rfl | rfl | rfl | rfl <;> kernel_rfl
theorem rcovers_eq (n : Nat) (a b : Int) : ref07_Covers n a b = some (coversB a b) := by
  cases ha : isM a with
  | false => unfold ref07_Covers coversB; simp only [ref_is_eq, ha, Option.bind_some, jn, cond_true, Bool.not_false, Bool.false_and]
  | true =>
    cases hb : isM b with
    | false => unfold ref07_Covers coversB; simp only [ref_is_eq, ha, hb, Option.bind_some, jn, cond_true, cond_false, Bool.not_true, Bool.not_false, Bool.false_and, Bool.and_false]
    | true =>
      rcases isM_cases ha with rfl | rfl | rfl | rfl | rfl | rfl | rfl <;> rcases isM_cases hb with rfl | rfl | rfl | rfl | rfl | rfl | rfl <;> kernel_rfl
theorem ofTables_eq (n : Nat) (a : Int) : mode_OfTables n a = some (tabM a) := by
  unfold mode_OfTables tabM
  simp only [mode_is_eq, Option.bind_some, jn, ibne]
  cases isM a <;> rfl
theorem keyM_is {a : Int} (h : isM a = false) : keyM a = false := by
  have := of_decide_eq_false h
  unfold keyM
  exact decide_eq_false (by omega)
theorem ofKeys_eq (n : Nat) (hn : 20 ≤ n) (a : Int) : mode_OfKeys n a = some (keyM a) := by
  obtain ⟨n, rfl⟩ : ∃ m, n = m + 20 := ⟨n - 20, by omega⟩
  cases ha : isM a with
  | false => unfold mode_OfKeys; simp only [mode_is_eq, ha, Option.bind_some, jn, cond_false, keyM_is ha]
  | true => rcases isM_cases ha with rfl | rfl | rfl | rfl | rfl | rfl | rfl <;> kernel_rfl
theorem rtables_eq (n : Nat) (a : Int) : ref07_Tables n a = some (tabM a) := by
  unfold ref07_Tables tabM
  simp only [ref_is_eq, Option.bind_some, jn, ibne]
  cases isM a <;> rfl
theorem rkeys_eq (n : Nat) (a : Int) : ref07_Keys n a = some (keyM a) := by
  unfold ref07_Keys keyM
  simp only [jn, ibeq]
  by_cases h0 : a = 0 <;> by_cases h3 : a = 3 <;> by_cases h5 : a = 5 <;> by_cases h6 : a = 6 <;> simp [h0, h3, h5, h6]

/-! ### What is locked -/
def txnB (x : Int) : Bool := decide (1 ≤ x ∧ x ≤ 1073741824)
theorem txn_eq (n : Nat) (x : Int) : locks_txn n x = some (txnB x) := by
  unfold locks_txn txnB
  simp only [jn]
  by_cases h1 : x ≥ 1
  · rw [decide_eq_true h1]
    simp only [cond_true]
    congr 1
    exact decide_eq_decide.2 (by omega)
  · rw [decide_eq_false h1, decide_eq_false (show ¬ (1 ≤ x ∧ x ≤ 1073741824) by omega)]; rfl
theorem rtxn_eq (n : Nat) (x : Int) : ref08_txn n x = some (txnB x) := by
  unfold ref08_txn txnB
  simp only [jn]
  by_cases h1 : x ≥ 1
  · rw [decide_eq_true h1]
    simp only [cond_true]
    congr 1
    exact decide_eq_decide.2 (by omega)
  · rw [decide_eq_false h1, decide_eq_false (show ¬ (1 ≤ x ∧ x ≤ 1073741824) by omega)]; rfl
def resB (r : Res) : Bool := decide (0 ≤ r.table ∧ r.table < 3) && (r.isKey || decide (r.id = 0))
theorem locked_eq (n : Nat) (r : Res) : locks_locked n r = some (resB r) := by
  unfold locks_locked resB
  simp only [jn, ibeq]
  by_cases h1 : r.table ≥ 0
  · by_cases h2 : r.table < 3
    · rw [decide_eq_true h1, decide_eq_true h2, decide_eq_true (show 0 ≤ r.table ∧ r.table < 3 from ⟨h1, h2⟩)]
      cases r.isKey <;> rfl
    · rw [decide_eq_true h1, decide_eq_false h2, decide_eq_false (show ¬ (0 ≤ r.table ∧ r.table < 3) by omega)]; rfl
  · rw [decide_eq_false h1, decide_eq_false (show ¬ (0 ≤ r.table ∧ r.table < 3) by omega)]; rfl
theorem rres_eq (n : Nat) (r : Res) : ref08_RightRes n r = some (resB r) := by
  unfold ref08_RightRes resB
  simp only [jn, ibeq]
  by_cases h1 : r.table ≥ 0
  · by_cases h2 : r.table < 3
    · rw [decide_eq_true h1, decide_eq_true h2, decide_eq_true (show 0 ≤ r.table ∧ r.table < 3 from ⟨h1, h2⟩)]
      cases r.isKey <;> rfl
    · rw [decide_eq_true h1, decide_eq_false h2, decide_eq_false (show ¬ (0 ≤ r.table ∧ r.table < 3) by omega)]; rfl
  · rw [decide_eq_false h1, decide_eq_false (show ¬ (0 ≤ r.table ∧ r.table < 3) by omega)]; rfl
def modeB (r : Res) (m : Int) : Bool := !decide (m = 0) && (if r.isKey then keyM m else tabM m)
theorem of_eq (n : Nat) (hn : 20 ≤ n) (r : Res) (m : Int) : locks_of n r m = some (modeB r m) := by
  unfold locks_of modeB
  simp only [jn, ibne, ofKeys_eq n hn, ofTables_eq, Option.bind_some]
  cases r.isKey <;> by_cases h : m = 0 <;> simp [h]
theorem rmode_eq (n : Nat) (r : Res) (m : Int) : ref08_RightMode n r m = some (modeB r m) := by
  unfold ref08_RightMode modeB
  simp only [jn, ibeq, rkeys_eq, rtables_eq, Option.bind_some]
  cases r.isKey <;> by_cases h : m = 0 <;> simp [h]
/-- Its place in the order. -/
def rankR (r : Res) : Int := if r.isKey then 1 else 0
def ltR (a b : Res) : Bool := decide (a.table < b.table ∨ a.table = b.table ∧ (rankR a < rankR b ∨ rankR a = rankR b ∧ a.id < b.id))
def cmpT (a b : Int) : Int := if a < b then -1 else if a > b then 1 else 0
theorem cmpT_int (n : Nat) (a b : Int) : cmp_Compare_int n a b = some (cmpT a b) := by
  unfold cmp_Compare_int cmp_isNaN_int cmpT
  by_cases h1 : a < b
  · simp [h1]
  · by_cases h2 : a > b
    · simp [h1, h2]
    · simp [h1, h2]
theorem cmpT_u16 (n : Nat) (a b : Int) : cmp_Compare_uint16 n a b = some (cmpT a b) := by
  unfold cmp_Compare_uint16 cmp_isNaN_uint16 cmpT
  by_cases h1 : a < b
  · simp [h1]
  · by_cases h2 : a > b
    · simp [h1, h2]
    · simp [h1, h2]
theorem or3T (n : Nat) (hn : 4 ≤ n) (a b c : Int) : cmp_Or_int n [a, b, c] = some (if a ≠ 0 then a else if b ≠ 0 then b else c) := by
  obtain ⟨n, rfl⟩ : ∃ m, n = m + 4 := ⟨n - 4, by omega⟩
  unfold cmp_Or_int cmp_Or_int_l1
  by_cases ha : a = 0
  · subst ha
    by_cases hb : b = 0
    · subst hb
      by_cases hc : c = 0
      · subst hc; rfl
      · have : (c != 0) = true := by simpa using hc
        simp [loopF, idx, IntKind.wrap_i64, this]
    · have : (b != 0) = true := by simpa using hb
      simp [loopF, idx, IntKind.wrap_i64, this, hb]
  · have : (a != 0) = true := by simpa using ha
    simp [loopF, idx, this, ha]
theorem rank_eq (n : Nat) (r : Res) : locks_compare_1 n r = some (rankR r) := by
  unfold locks_compare_1 rankR
  cases r.isKey <;> rfl
def cR (a b : Res) : Int := if cmpT a.table b.table ≠ 0 then cmpT a.table b.table else if cmpT (rankR a) (rankR b) ≠ 0 then cmpT (rankR a) (rankR b) else cmpT a.id b.id
theorem compareR (n : Nat) (hn : 20 ≤ n) (a b : Res) : locks_compare n a b = some (cR a b) := by
  unfold locks_compare cR
  simp only [cmpT_int, cmpT_u16, rank_eq, Option.bind_some, or3T n (by omega)]
theorem cmpT_cases (a b : Int) : (a < b ∧ cmpT a b = -1) ∨ (a = b ∧ cmpT a b = 0) ∨ (b < a ∧ cmpT a b = 1) := by
  unfold cmpT
  split
  · left; omega
  · split
    · right; right; omega
    · right; left; omega
theorem cR_ge {a b : Res} : decide (cR a b ≥ 0) = !ltR a b := by
  unfold cR ltR
  rcases cmpT_cases a.table b.table with ⟨h, e⟩ | ⟨h, e⟩ | ⟨h, e⟩ <;> rcases cmpT_cases (rankR a) (rankR b) with ⟨h2, e2⟩ | ⟨h2, e2⟩ | ⟨h2, e2⟩ <;> rcases cmpT_cases a.id b.id with ⟨h3, e3⟩ | ⟨h3, e3⟩ | ⟨h3, e3⟩ <;> rw [e, e2, e3] <;> simp [h, h2, h3] <;> omega
/-- The document's number. -/
def ordR (r : Res) : Int := r.table * 100000 + (if r.isKey then 1 + r.id else 0)
theorem order_eq (n : Nat) (r : Res) (h : resB r = true) (hi : 0 ≤ r.id ∧ r.id < 65536) : ref08_order n r = some (ordR r) := by
  unfold resB at h
  rw [Bool.and_eq_true, decide_eq_true_iff] at h
  unfold ref08_order ordR
  simp only [jn, ref08_order_j1]
  cases r.isKey with
  | true =>
    simp only [cond_true, if_true]
    rw [wrap_in (x := r.table * 100000) (by omega), wrap_in (x := r.id) (by omega), wrap_in (x := 1 + r.id) (by omega), wrap_in (by omega)]
  | false =>
    simp only [cond_false, Bool.false_eq_true, if_false]
    rw [wrap_in (by omega)]
    congr 1; omega
theorem rk_cases {a : Res} (h : resB a = true) : (0 ≤ a.table ∧ a.table < 3) ∧ ((rankR a = 1 ∧ ordR a = a.table * 100000 + (1 + a.id)) ∨ (rankR a = 0 ∧ ordR a = a.table * 100000 + 0 ∧ a.id = 0)) := by
  unfold resB at h
  rw [Bool.and_eq_true, decide_eq_true_iff] at h
  refine ⟨h.1, ?_⟩
  unfold rankR ordR
  have h2 := h.2
  cases hk : a.isKey with
  | true => exact .inl ⟨rfl, rfl⟩
  | false =>
    rw [hk, Bool.false_or, decide_eq_true_iff] at h2
    exact .inr ⟨rfl, rfl, h2⟩
theorem ord_ge {a b : Res} (ha : resB a = true) (hb : resB b = true) (ia : 0 ≤ a.id ∧ a.id < 65536) (ib : 0 ≤ b.id ∧ b.id < 65536) : decide (ordR a ≥ ordR b) = !ltR a b := by
  obtain ⟨h1, h2⟩ := rk_cases ha
  obtain ⟨k1, k2⟩ := rk_cases hb
  unfold ltR
  rw [Bool.eq_iff_iff, decide_eq_true_iff, Bool.not_eq_true', decide_eq_false_iff_not]
  generalize rankR a = x at *
  generalize rankR b = y at *
  generalize ordR a = u at *
  generalize ordR b = v at *
  rcases h2 with ⟨h2, h3⟩ | ⟨h2, h3, h4⟩ <;> rcases k2 with ⟨k2, k3⟩ | ⟨k2, k3, k4⟩ <;> omega

/-! ### Holders -/
def heldL (hs : List Hold) (x : Int) : Int := ((hs.find? fun h => decide (h.txn = x)).map (·.mode)).getD 0
def goesL (hs : List Hold) (x m : Int) : Bool := hs.all fun h => decide (h.txn = x) || goesB h.mode m
theorem held_eq (n : Nat) (hn : 1003 ≤ n) (q : Queue) (hq : q.holders.length ≤ 1000) (x : Int) : locks_held n q x = some (heldL q.holders x) := by
  unfold locks_held
  have h1 : slices_IndexFunc_Hold_f133 n q.holders x = some (match q.holders.findIdx? (fun h => decide (h.txn = x)) with | some j => (j : Int) | none => -1) := by
    unfold slices_IndexFunc_Hold_f133
    show slices_IndexFunc_Hold_f133_l1 n n (q.holders, x, (q.holders.length : Int), ((0 : Nat) : Int), ()) = _
    unfold slices_IndexFunc_Hold_f133_l1
    rw [run_loop q.holders (fun i (_ : Unit) => (q.holders, x, (q.holders.length : Int), (i : Int), ())) (fun i h _ => if decide (h.txn = x) then .inl (some (i : Int)) else .inr ()) (fun _ => some (-1)) ?_ ?_ n 0 () (Nat.zero_le _) (by omega)]
    · rw [List.drop_zero, runL_find0 (f := fun i => some (i : Int))]
      cases q.holders.findIdx? (fun h => decide (h.txn = x)) with
      | none => rfl
      | some j => simp
    · intro r i s y hy hi
      simp only [lt_dec hi, cond_true, idx_nat, hy, Option.bind_some, locks_held_1, ibeq, wrap_succ (show i < 4611686018427387904 by omega)]
      cases decide (y.txn = x) <;> rfl
    · intro r s
      simp only [ge_dec (Nat.lt_irrefl _), cond_false]
  rw [h1, Option.bind_some]
  unfold heldL
  rw [List.find?_eq_bind_findIdx?_getElem?]
  cases hf : q.holders.findIdx? (fun h => decide (h.txn = x)) with
  | none => rfl
  | some j =>
    obtain ⟨hj, _, _⟩ := List.findIdx?_eq_some_iff_getElem.1 hf
    simp only [decide_eq_false (show ¬ (j : Int) < 0 by omega), cond_false, idx_nat, get_some hj, Option.bind_some, Option.map_some, Option.getD_some]
theorem rheld_eq (n : Nat) (hn : 1003 ≤ n) (q : Queue) (hq : q.holders.length ≤ 1000) (x : Int) : ref08_held n q x = some (heldL q.holders x) := by
  unfold ref08_held
  show ref08_held_l1 n n (x, q.holders, (q.holders.length : Int), ((0 : Nat) : Int), ()) = _
  unfold ref08_held_l1
  have key : ∀ (hs : List Hold) (i : Nat), runL (fun (_ : Nat) (h : Hold) (_ : Unit) => if decide (h.txn = x) then .inl (some h.mode) else .inr ()) (fun _ => some 0) hs i () = some (heldL hs x) := by
    intro hs
    induction hs with
    | nil => intro i; rfl
    | cons h t ih =>
      intro i
      unfold heldL
      by_cases hx : h.txn = x
      · simp [runL, hx]
      · simp only [runL, decide_eq_false hx, Bool.false_eq_true, if_false, List.find?_cons]
        exact ih (i + 1)
  rw [run_loop q.holders (fun i (_ : Unit) => (x, q.holders, (q.holders.length : Int), (i : Int), ())) (fun _ h _ => if decide (h.txn = x) then .inl (some h.mode) else .inr ()) (fun _ => some 0) ?_ ?_ n 0 () (Nat.zero_le _) (by omega)]
  · rw [List.drop_zero]; exact key _ _
  · intro r i s y hy hi
    simp only [lt_dec hi, cond_true, idx_nat, hy, Option.bind_some, ibeq, wrap_succ (show i < 4611686018427387904 by omega)]
    cases decide (y.txn = x) <;> rfl
  · intro r s
    simp only [ge_dec (Nat.lt_irrefl _), cond_false]
theorem goes1_eq (n : Nat) (hn : 20 ≤ n) (h : Hold) (x m : Int) : locks_goes_1 n h x m = some (!(decide (h.txn = x) || goesB h.mode m)) := by
  unfold locks_goes_1
  simp only [jn, ibne, goes_eq n hn, Option.bind_some]
  cases decide (h.txn = x) <;> rfl
theorem goesL_eq (n : Nat) (hn : 1003 ≤ n) (q : Queue) (hq : q.holders.length ≤ 1000) (x m : Int) : locks_goes n q x m = some (goesL q.holders x m) := by
  unfold locks_goes slices_ContainsFunc_Hold_f131
  have h1 : slices_IndexFunc_Hold_f131 n q.holders x m = some (match q.holders.findIdx? (fun h => !(decide (h.txn = x) || goesB h.mode m)) with | some j => (j : Int) | none => -1) := by
    unfold slices_IndexFunc_Hold_f131
    show slices_IndexFunc_Hold_f131_l1 n n (q.holders, x, m, (q.holders.length : Int), ((0 : Nat) : Int), ()) = _
    unfold slices_IndexFunc_Hold_f131_l1
    rw [run_loop q.holders (fun i (_ : Unit) => (q.holders, x, m, (q.holders.length : Int), (i : Int), ())) (fun i h _ => if !(decide (h.txn = x) || goesB h.mode m) then .inl (some (i : Int)) else .inr ()) (fun _ => some (-1)) ?_ ?_ n 0 () (Nat.zero_le _) (by omega)]
    · rw [List.drop_zero, runL_find0 (f := fun i => some (i : Int))]
      cases q.holders.findIdx? (fun h => !(decide (h.txn = x) || goesB h.mode m)) with
      | none => rfl
      | some j => simp
    · intro r i s y hy hi
      simp only [lt_dec hi, cond_true, idx_nat, hy, Option.bind_some, goes1_eq n (by omega), wrap_succ (show i < 4611686018427387904 by omega)]
      cases decide (y.txn = x) || goesB y.mode m <;> rfl
    · intro r s
      simp only [ge_dec (Nat.lt_irrefl _), cond_false]
  rw [h1]
  simp only [Option.bind_some]
  congr 1
  unfold goesL
  cases hf : q.holders.findIdx? (fun h => !(decide (h.txn = x) || goesB h.mode m)) with
  | none =>
    have := List.findIdx?_eq_none_iff.1 hf
    symm
    simp only [show ¬ ((-1 : Int) ≥ 0) by omega, decide_false, Bool.not_false, List.all_eq_true]
    intro y hy
    have := this y hy
    rw [Bool.or_eq_true, decide_eq_true_iff]
    by_cases hx : y.txn = x
    · exact .inl hx
    · exact .inr (by simpa [hx] using this)
  | some j =>
    obtain ⟨hj, h2, _⟩ := List.findIdx?_eq_some_iff_getElem.1 hf
    symm
    simp only [show ((j : Int) ≥ 0) by omega, decide_true, Bool.not_true]
    rw [List.all_eq_false]
    exact ⟨_, List.getElem_mem hj, by simpa using h2⟩
theorem rgoesL_eq (n : Nat) (hn : 1003 ≤ n) (q : Queue) (hq : q.holders.length ≤ 1000) (x m : Int) : ref08_goes n q x m = some (goesL q.holders x m) := by
  unfold ref08_goes
  show ref08_goes_l1 n n (x, m, q.holders, (q.holders.length : Int), ((0 : Nat) : Int), ()) = _
  unfold ref08_goes_l1
  rw [run_loop q.holders (fun i (_ : Unit) => (x, m, q.holders, (q.holders.length : Int), (i : Int), ())) (fun _ h _ => if decide (h.txn = x) || goesB h.mode m then .inr () else .inl (some false)) (fun _ => some true) ?_ ?_ n 0 () (Nat.zero_le _) (by omega)]
  · rw [List.drop_zero, runL_all]
    unfold goesL
    cases q.holders.all fun h => decide (h.txn = x) || goesB h.mode m <;> rfl
  · intro r i s y hy hi
    simp only [lt_dec hi, cond_true, idx_nat, hy, Option.bind_some, jn, ibne, rgoes_eq, wrap_succ (show i < 4611686018427387904 by omega)]
    cases decide (y.txn = x) <;> cases goesB y.mode m <;> rfl
  · intro r s
    simp only [ge_dec (Nat.lt_irrefl _), cond_false]
end Go.Proofs.YtegnflodgnfffaaGreat

/- Layer 8 (locks): which locks may be: the code's answer is the document's. -/
namespace Go.Proofs.YtegnflodgnfffaaGreat
open Go.Bur
set_option linter.unusedSimpArgs false
set_option linter.unusedVariables false
set_option maxRecDepth 100000

theorem runL_chk2 {α σ R : Type} {p : Nat → α → Bool} {g : α → σ → σ} {v : Option R} {fin : σ → Option R} : ∀ (l : List α) (i : Nat) (s : σ), runL (fun i x s => if p i x then .inr (g x s) else .inl v) fin l i s = if allFrom p i l then fin (l.foldl (fun s x => g x s) s) else v
  | [], _, _ => rfl
  | x :: t, i, s => by
    by_cases hp : p i x = true
    · simp only [runL, allFrom, hp, if_true, Bool.true_and, List.foldl_cons]; exact runL_chk2 t (i + 1) _
    · have hp : p i x = false := by simpa using hp
      simp [runL, allFrom, hp]
theorem allFrom_iff {α : Type} {p : Nat → α → Bool} : ∀ {l : List α} {k : Nat}, allFrom p k l = true ↔ ∀ i x, l[i]? = some x → p (k + i) x = true
  | [], k => by simp [allFrom]
  | y :: l, k => by
    simp only [allFrom, Bool.and_eq_true, allFrom_iff (l := l) (k := k + 1)]
    constructor
    · rintro ⟨h1, h2⟩ i x hx
      cases i with
      | zero => simp at hx; subst hx; exact h1
      | succ i => rw [show k + (i + 1) = k + 1 + i from by omega]; exact h2 i x (by simpa using hx)
    · intro h
      exact ⟨h 0 y rfl, fun i x hx => by rw [show k + 1 + i = k + (i + 1) from by omega]; exact h (i + 1) x (by simpa using hx)⟩
theorem pair_iff {α : Type} {R : α → α → Prop} : ∀ {l : List α}, l.Pairwise R ↔ ∀ i x, l[i]? = some x → ∀ y ∈ l.take i, R y x
  | [] => by simp
  | a :: l => by
    rw [List.pairwise_cons, pair_iff (l := l)]
    constructor
    · rintro ⟨h1, h2⟩ i x hx y hy
      cases i with
      | zero => simp at hy
      | succ i =>
        rw [List.take_succ_cons] at hy
        have hx : l[i]? = some x := by simpa using hx
        rcases List.mem_cons.1 hy with rfl | hy
        · exact h1 x (List.mem_of_getElem? hx)
        · exact h2 i x hx y hy
    · intro h
      refine ⟨fun x hx => ?_, fun i x hx y hy => h (i + 1) x (by simpa using hx) y (by rw [List.take_succ_cons]; exact List.mem_cons_of_mem _ hy)⟩
      obtain ⟨i, hi⟩ := List.mem_iff_getElem?.1 hx
      exact h (i + 1) x (by simpa using hi) a (by rw [List.take_succ_cons]; exact List.mem_cons_self ..)

/-! ### Holders -/
def hB (r : Res) (hs : List Hold) (h : Hold) : Bool := txnB h.txn && modeB r h.mode && goesL hs h.txn h.mode
def ltH (a b : Hold) : Bool := decide (a.txn < b.txn)
def holdersB (r : Res) (hs : List Hold) : Bool := !hs.isEmpty && chainB (hB r hs) ltH none hs
theorem fold_last {hs : List Hold} {r : Res} {l : List Hold} : ∀ {s : Int}, 0 ≤ s → (∀ h ∈ l, hB r hs h = true) → 0 ≤ l.foldl (fun _ h => h.txn) s ∧ (l ≠ [] → 0 < l.foldl (fun _ h => h.txn) s) := by
  induction l with
  | nil => intro s hs' _; exact ⟨hs', fun h => absurd rfl h⟩
  | cons h t ih =>
    intro s _ hall
    have hh := hall h (List.mem_cons_self ..)
    unfold hB txnB at hh
    rw [Bool.and_eq_true, Bool.and_eq_true, decide_eq_true_iff] at hh
    rw [List.foldl_cons]
    obtain ⟨h1, h2⟩ := ih (s := h.txn) (by omega) fun x hx => hall x (List.mem_cons_of_mem _ hx)
    refine ⟨h1, fun _ => ?_⟩
    cases t with
    | nil => simp; omega
    | cons y t => exact h2 (by simp)
theorem ltH_trans (a b c : Hold) (h : ltH a b = true) (k : ltH b c = true) : ltH a c = true := by
  unfold ltH at *
  rw [decide_eq_true_iff] at *; omega
theorem holders_eq (n : Nat) (hn : 1003 ≤ n) (q : Queue) (hq : q.holders.length ≤ 1000) : locks_holders n q = some (holdersB q.res q.holders) := by
  unfold locks_holders
  show locks_holders_l1 n n (0, q.holders, (q.holders.length : Int), ((0 : Nat) : Int), q, ()) = _
  unfold locks_holders_l1
  rw [run_loopI q.holders (fun i (s : Int) => (s, q.holders, (q.holders.length : Int), (i : Int), q, ())) (fun i h s => if stepA (hB q.res q.holders) ltH q.holders i h then .inr h.txn else .inl (some false)) (fun s => some (decide (s > 0))) (fun i s => s = match prevO q.holders i with | none => 0 | some y => y.txn) ?_ ?_ ?_ n 0 0 (Nat.zero_le _) (by omega) rfl]
  · rw [List.drop_zero, runL_chk2 (g := fun (h : Hold) (_ : Int) => h.txn), allFrom_chain]
    unfold holdersB
    cases hc : chainB (hB q.res q.holders) ltH none q.holders with
    | false => simp
    | true =>
      have hall := ((chain_iff ltH_trans).1 hc).1
      have hf := fold_last (s := 0) (Int.le_refl _) hall
      simp only [if_true, Bool.and_true]
      congr 1
      cases hh : q.holders with
      | nil => rfl
      | cons x t =>
        rw [hh] at hf
        simp only [List.isEmpty_cons, Bool.not_false]
        exact decide_eq_true (hf.2 (by simp))
  · intro i s h s' hh hI hs
    split at hs
    · cases hs
      simp [prevO, hh]
    · cases hs
  · intro r i s h hh hi hI
    simp only [lt_dec hi, cond_true, idx_nat, hh, Option.bind_some, txn_eq, jn, goesL_eq n hn q hq, of_eq n (by omega), wrap_succ (show i < 4611686018427387904 by omega)]
    unfold stepA hB
    cases ht : txnB h.txn with
    | false => rfl
    | true =>
      have h1 : 1 ≤ h.txn := (of_decide_eq_true ht).1
      have hle : decide (h.txn ≤ s) = !prevOk ltH h (prevO q.holders i) := by
        rw [hI]
        cases prevO q.holders i with
        | none => simp only [prevOk, Bool.not_true]; exact decide_eq_false (by omega)
        | some y =>
          simp only [prevOk]
          unfold ltH
          by_cases hy : y.txn < h.txn
          · rw [decide_eq_true hy, decide_eq_false (by omega)]; rfl
          · rw [decide_eq_false hy, decide_eq_true (by omega)]; rfl
      rw [hle]
      cases prevOk ltH h (prevO q.holders i) <;> cases modeB q.res h.mode <;> cases goesL q.holders h.txn h.mode <;> rfl
  · intro r s hI
    simp only [ge_dec (Nat.lt_irrefl _), cond_false]

/-! ### Waiters -/
def wS (r : Res) (hs : List Hold) (w : Wait) : Bool := txnB w.txn && modeB r w.mode && decide (w.held = heldL hs w.txn) && !coversB w.held w.mode && coversB w.mode w.held
def wR (a b : Wait) : Bool := !(!decide (b.held = 0) && decide (a.held = 0))
theorem wR_iff {a b : Wait} : wR a b = true ↔ (a.held = 0 → b.held = 0) := by
  unfold wR
  by_cases h1 : a.held = 0 <;> by_cases h2 : b.held = 0 <;> simp [h1, h2]
theorem wR_trans (a b c : Wait) (h : wR a b = true) (k : wR b c = true) : wR a c = true := by
  rw [wR_iff] at *; exact fun x => k (h x)
def firstB (hs : List Hold) : List Wait → Bool
  | [] => true
  | w :: _ => !goesL hs w.txn w.mode
def waitersB (r : Res) (hs : List Hold) (ws : List Wait) : Bool := chainB (wS r hs) wR none ws && decide ((ws.map (·.txn)).Nodup) && firstB hs ws
def metW (m : List (Int × Bool)) (ws : List Wait) : List (Int × Bool) := ws.foldl (fun m w => (w.txn, true) :: m) m
def AllTr (m : List (Int × Bool)) : Prop := ∀ p ∈ m, p.2 = true
theorem mget_tr {x : Int} : ∀ {m : List (Int × Bool)}, AllTr m → mget false m x = mhas m x
  | [], _ => rfl
  | (k, v) :: m, h => by
    have hv : v = true := h _ (List.mem_cons_self ..)
    have ih := mget_tr (x := x) (m := m) fun p hp => h p (List.mem_cons_of_mem _ hp)
    subst hv
    by_cases hk : k = x
    · simp [mget, mhas, hk]
    · simp only [mget, mhas, List.any_cons, decide_eq_false hk, Bool.false_or]
      exact ih
theorem look_tr {m : List (Int × Bool)} (h : AllTr m) {x : Int} (hx : keyIn .i64 x = true) : mlook .i64 false m x = some (mhas m x) := by
  unfold mlook
  rw [hx, ← mget_tr h]
theorem put_tr {m : List (Int × Bool)} {x : Int} (hk : keyIn .i64 x = true) (hm : m.length ≤ 1000000) : mput .i64 m x true = some ((x, true) :: m) := by
  unfold mput
  rw [hk, Nat.ble_eq_true_of_le hm]; rfl
theorem key_txn {x : Int} (h : txnB x = true) : keyIn .i64 x = true := by
  have := of_decide_eq_true h
  unfold keyIn
  simp [Lit.wf]
  exact ⟨by show -9223372036854775808 ≤ x; omega, by show x ≤ 9223372036854775807; omega⟩
theorem metW_all {m : List (Int × Bool)} (h : AllTr m) : ∀ {ws : List Wait}, AllTr (metW m ws) := fun {ws} =>
  foldl_inv (I := AllTr) h fun s x _ hs p hp => by
    rcases List.mem_cons.1 hp with rfl | hp
    · rfl
    · exact hs p hp
theorem metW_len {m : List (Int × Bool)} : ∀ {ws : List Wait}, (metW m ws).length = m.length + ws.length := by
  intro ws
  induction ws generalizing m with
  | nil => rfl
  | cons w t ih =>
    show (metW ((w.txn, true) :: m) t).length = _
    rw [ih]; simp; omega
theorem mhas_metW {x : Int} : ∀ {ws : List Wait} {m : List (Int × Bool)}, mhas (metW m ws) x = (mhas m x || decide (x ∈ ws.map (·.txn)))
  | [], m => by simp [metW]
  | w :: t, m => by
    show mhas (metW ((w.txn, true) :: m) t) x = _
    rw [mhas_metW (ws := t)]
    simp only [mhas, List.any_cons, List.map_cons, List.mem_cons]
    by_cases h : x = w.txn
    · simp [h]
    · have h' : ¬ w.txn = x := fun e => h e.symm
      simp [h, h']
/-- A waiter at its place, by the code. -/
def wP (r : Res) (hs : List Hold) (m : List (Int × Bool)) (ws : List Wait) (i : Nat) (w : Wait) : Bool :=
  wS r hs w && !mhas m w.txn && !decide (w.txn ∈ (ws.take i).map (·.txn)) && !((ws.take i).any (fun y => decide (y.held = 0)) && !decide (w.held = 0)) && !(decide (i = 0) && goesL hs w.txn w.mode)
theorem wP_all {r : Res} {hs : List Hold} {m : List (Int × Bool)} {ws : List Wait} : allFrom (wP r hs m ws) 0 ws = (waitersB r hs ws && ws.all fun w => !mhas m w.txn) := by
  rw [Bool.eq_iff_iff, allFrom_iff]
  unfold waitersB
  simp only [Bool.and_eq_true, chain_iff wR_trans, decide_eq_true_iff, List.all_eq_true, Nat.zero_add]
  constructor
  · intro h
    have hp : ∀ i w, ws[i]? = some w → wS r hs w = true ∧ mhas m w.txn = false ∧ w.txn ∉ (ws.take i).map (·.txn) ∧ (∀ y ∈ ws.take i, y.held = 0 → w.held = 0) ∧ (i = 0 → goesL hs w.txn w.mode = false) := fun i w hw => by
      have := h i w hw
      unfold wP at this
      simp only [Bool.and_eq_true, Bool.not_eq_true', decide_eq_false_iff_not, Bool.and_eq_false_iff] at this
      obtain ⟨⟨⟨⟨h1, h2⟩, h3⟩, h4⟩, h5⟩ := this
      refine ⟨h1, h2, h3, fun y hy hy0 => ?_, fun hi => ?_⟩
      · rcases h4 with h4 | h4
        · rw [List.any_eq_false] at h4
          exact absurd (decide_eq_true hy0) (h4 y hy)
        · simpa using h4
      · rcases h5 with h5 | h5
        · exact absurd hi h5
        · exact h5
    refine ⟨⟨⟨⟨fun w hw => ?_, pair_iff.2 fun i w hw y hy => wR_iff.2 ((hp i w hw).2.2.2.1 y hy), fun y hy => by cases hy⟩, ?_⟩, ?_⟩, fun w hw => ?_⟩
    · obtain ⟨i, hi⟩ := List.mem_iff_getElem?.1 hw
      exact (hp i w hi).1
    · have : ws.Pairwise fun a b => a.txn ≠ b.txn := pair_iff.2 fun i w hw y hy e => (hp i w hw).2.2.1 (List.mem_map.2 ⟨y, hy, e⟩)
      exact List.pairwise_map.2 this
    · cases hw : ws with
      | nil => rfl
      | cons w t =>
        have := (hp 0 w (by rw [hw]; rfl)).2.2.2.2 rfl
        simp [firstB, this]
    · obtain ⟨i, hi⟩ := List.mem_iff_getElem?.1 hw
      rw [(hp i w hi).2.1]; rfl
  · rintro ⟨⟨⟨⟨h1, h2, _⟩, h3⟩, h4⟩, h5⟩ i w hw
    have hm := List.mem_of_getElem? hw
    have h3 : ws.Pairwise fun a b => a.txn ≠ b.txn := List.pairwise_map.1 h3
    unfold wP
    simp only [Bool.and_eq_true, Bool.not_eq_true', decide_eq_false_iff_not, Bool.and_eq_false_iff]
    refine ⟨⟨⟨⟨h1 w hm, by simpa using h5 w hm⟩, fun hx => ?_⟩, ?_⟩, ?_⟩
    · obtain ⟨y, hy, e⟩ := List.mem_map.1 hx
      exact pair_iff.1 h3 i w hw y hy e
    · by_cases h0 : w.held = 0
      · right; simp [h0]
      · left
        rw [List.any_eq_false]
        intro y hy hy0
        exact h0 (wR_iff.1 (pair_iff.1 h2 i w hw y hy) (of_decide_eq_true hy0))
    · by_cases hi : i = 0
      · right
        subst hi
        cases hws : ws with
        | nil => rw [hws] at hw; cases hw
        | cons v t =>
          rw [hws] at hw h4
          simp at hw
          subst hw
          simpa [firstB] using h4
      · exact .inl hi
theorem wP_ord (a b c d e f g h : Bool) : (((((true && c && d) && !e) && f) && !a) && !b && !(g && !h)) = (!(a || b) && c && d && !e && f && !(g && !h)) := by
  cases a <;> cases b <;> cases c <;> cases d <;> cases e <;> cases f <;> rfl
set_option maxHeartbeats 2000000 in
theorem waiters_eq (n : Nat) (hn : 1003 ≤ n) (q : Queue) (hq : q.holders.length ≤ 1000) (hw : q.waiters.length ≤ 1000) (m : List (Int × Bool)) (hm : AllTr m) (hml : m.length ≤ 900000) :
    ∃ m', locks_waiters n q m = some (waitersB q.res q.holders q.waiters && (q.waiters.all fun w => !mhas m w.txn), m') ∧ ((waitersB q.res q.holders q.waiters && (q.waiters.all fun w => !mhas m w.txn)) = true → m' = metW m q.waiters) := by
  unfold locks_waiters
  show ∃ m', locks_waiters_l1 n n (false, q.waiters, (q.waiters.length : Int), ((0 : Nat) : Int), m, q, ()) = _ ∧ _
  rw [← wP_all]
  have key : ∀ (t pre : List Wait) (k : Nat), q.waiters = pre ++ t → t.length < k → ∃ m', locks_waiters_l1 n k (pre.any (fun y => decide (y.held = 0)), q.waiters, (q.waiters.length : Int), (pre.length : Int), metW m pre, q, ()) = some (allFrom (wP q.res q.holders m q.waiters) pre.length t, m') ∧ (allFrom (wP q.res q.holders m q.waiters) pre.length t = true → m' = metW m q.waiters) := by
    intro t
    induction t with
    | nil =>
      intro pre k he hk
      obtain ⟨k, rfl⟩ : ∃ k', k = k' + 1 := ⟨k - 1, by omega⟩
      rw [List.append_nil] at he
      refine ⟨metW m pre, ?_, fun _ => by rw [he]⟩
      unfold locks_waiters_l1
      simp only [loopF]
      rw [decide_eq_false (by rw [he]; omega)]; rfl
    | cons w t ih =>
      intro pre k he hk
      obtain ⟨k, rfl⟩ : ∃ k', k = k' + 1 := ⟨k - 1, by omega⟩
      have hlen : q.waiters.length = pre.length + (t.length + 1) := by rw [he]; simp
      have hx : q.waiters[pre.length]? = some w := by rw [he]; simp
      have htk : q.waiters.take pre.length = pre := by rw [he]; simp
      have hml2 : (metW m pre).length ≤ 1000000 := by rw [metW_len]; omega
      obtain ⟨r, hr⟩ : ∃ r, r = locks_waiters_l1 n k := ⟨_, rfl⟩
      have ih := fun (pre : List Wait) (he : q.waiters = pre ++ t) (hk : t.length < k) => ih pre k he hk
      rw [← hr] at ih
      unfold locks_waiters_l1 at hr ⊢
      rw [loopF, ← hr]
      clear hr
      simp only []
      rw [decide_eq_true (by omega)]
      simp only [cond_true, idx_nat, hx, Option.bind_some, txn_eq, jn, of_eq n (by omega), held_eq n hn q hq, covers_eq n (by omega), locks_conversion, goesL_eq n hn q hq, ibeq, ibne, allFrom]
      have bad : wP q.res q.holders m q.waiters pre.length w = false → ∃ m', some (false, metW m pre) = some (wP q.res q.holders m q.waiters pre.length w && allFrom (wP q.res q.holders m q.waiters) (pre.length + 1) t, m') ∧ ((wP q.res q.holders m q.waiters pre.length w && allFrom (wP q.res q.holders m q.waiters) (pre.length + 1) t) = true → m' = metW m q.waiters) := fun h => by
        rw [h]
        exact ⟨metW m pre, rfl, nofun⟩
      cases ht : txnB w.txn with
      | false =>
        simp only [cond_false, Bool.not_false, cond_true]
        exact bad (by unfold wP wS; rw [ht]; rfl)
      | true =>
        have hk1 := key_txn ht
        have good : wP q.res q.holders m q.waiters pre.length w = true → ∃ m', (mput .i64 (metW m pre) w.txn true).bind (fun l23 => cond (pre.any (fun y => decide (y.held = 0))) (r (true, q.waiters, (q.waiters.length : Int), IntKind.wrap .i64 ((pre.length : Int) + 1), l23, q, ())) (r (!!decide (w.held = 0), q.waiters, (q.waiters.length : Int), IntKind.wrap .i64 ((pre.length : Int) + 1), l23, q, ()))) = some (wP q.res q.holders m q.waiters pre.length w && allFrom (wP q.res q.holders m q.waiters) (pre.length + 1) t, m') ∧ ((wP q.res q.holders m q.waiters pre.length w && allFrom (wP q.res q.holders m q.waiters) (pre.length + 1) t) = true → m' = metW m q.waiters) := fun h => by
          obtain ⟨m', e1, e2⟩ := ih (pre ++ [w]) (by rw [he]; simp) (by simp at hk; omega)
          have e3 : metW m (pre ++ [w]) = (w.txn, true) :: metW m pre := by simp [metW]
          rw [e3, List.length_append, List.length_singleton, List.any_append] at e1
          simp only [List.any_cons, List.any_nil, Bool.or_false] at e1
          rw [List.length_append, List.length_singleton] at e2
          rw [h, Bool.true_and]
          refine ⟨m', ?_, e2⟩
          rw [put_tr hk1 hml2, Option.bind_some, wrap_succ (by omega), ← e1]
          cases pre.any (fun y => decide (y.held = 0)) with
          | true => rfl
          | false => simp
        simp only [cond_true, look_tr (metW_all hm (ws := pre)) hk1, mhas_metW, Option.bind_some]
        have hwp : wP q.res q.holders m q.waiters pre.length w = (!(mhas m w.txn || decide (w.txn ∈ pre.map (·.txn))) && modeB q.res w.mode && decide (w.held = heldL q.holders w.txn) && !coversB w.held w.mode && coversB w.mode w.held && !(pre.any (fun y => decide (y.held = 0)) && !decide (w.held = 0)) && !(decide (pre.length = 0) && goesL q.holders w.txn w.mode)) := by
          unfold wP wS
          rw [ht, htk]
          exact congrArg (· && _) (wP_ord ..)
        have h0 : decide ((pre.length : Int) = 0) = decide (pre.length = 0) := decide_eq_decide.2 (by omega)
        simp only [h0]
        simp only [hwp] at bad good ⊢
        clear hwp ih
        generalize (mhas m w.txn || decide (w.txn ∈ pre.map (·.txn))) = u at bad good ⊢
        generalize modeB q.res w.mode = md at bad good ⊢
        generalize decide (w.held = heldL q.holders w.txn) = he at bad good ⊢
        generalize coversB w.held w.mode = c1 at bad good ⊢
        generalize coversB w.mode w.held = c2 at bad good ⊢
        generalize pre.any (fun y => decide (y.held = 0)) = sn at bad good ⊢
        generalize decide (w.held = 0) = h0 at bad good ⊢
        generalize decide (pre.length = 0) = z at bad good ⊢
        generalize goesL q.holders w.txn w.mode = go at bad good ⊢
        cases u with
        | true => exact bad rfl
        | false =>
        cases md with
        | false => exact bad rfl
        | true =>
        cases he with
        | false => exact bad rfl
        | true =>
        cases c1 with
        | true => exact bad rfl
        | false =>
        cases c2 with
        | false => exact bad rfl
        | true =>
        cases sn <;> cases h0 <;> cases z <;> cases go <;> first | exact bad rfl | exact good rfl
  obtain ⟨m', e1, e2⟩ := key q.waiters [] n rfl (by omega)
  exact ⟨m', e1, e2⟩
end Go.Proofs.YtegnflodgnfffaaGreat
