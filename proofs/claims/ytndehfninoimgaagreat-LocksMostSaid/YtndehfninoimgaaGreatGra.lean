import Derived.Test.YtndehfninoimgaaGreatHn
import Derived.Test.YtndehfninoimgaaGreatCp
namespace Go.Bur
open Go.RowKit
set_option linter.unusedVariables false
set_option linter.unusedSimpArgs false
theorem idx_nat {α : Type} (l : List α) (i : Nat) : idx l (i : Int) = l[i]? := by
  unfold idx
  rw [if_pos (Int.natCast_nonneg i), Int.toNat_natCast]
theorem wrap_in {x : Int} (h : -9223372036854775808 ≤ x ∧ x ≤ 9223372036854775807) : IntKind.wrap .i64 x = x := by rw [IntKind.wrap_i64]; omega
theorem wrap_succ {i : Nat} (h : i < 4611686018427387904) : IntKind.wrap .i64 ((i : Int) + 1) = ((i + 1 : Nat) : Int) := by rw [IntKind.wrap_i64]; omega
theorem wrap_pred {i : Nat} (h : i < 4611686018427387904) : IntKind.wrap .i64 (((i + 1 : Nat) : Int) - 1) = (i : Int) := by rw [IntKind.wrap_i64]; omega
theorem lt_dec {i n : Nat} (h : i < n) : decide ((i : Int) < (n : Int)) = true := decide_eq_true (by omega)
theorem ge_dec {i n : Nat} (h : ¬ i < n) : decide ((i : Int) < (n : Int)) = false := decide_eq_false (by omega)
theorem room_ok {k b : Nat} (h : k * b ≤ 140737488355328) : room k b = true := Nat.ble_eq_true_of_le h
theorem app_ok {α : Type} {b : Nat} {l m : List α} (h : (l.length + m.length) * b ≤ 140737488355328) : app b l m = some (l ++ m) := by
  unfold app; rw [room_ok h]
theorem app_lt {α : Type} {b : Nat} {l m : List α} (h : l.length + m.length ≤ 1000000) (hb : b ≤ 1000) : app b l m = some (l ++ m) :=
  app_ok (Nat.le_trans (Nat.mul_le_mul h hb) (by decide))
theorem drop_cons {α : Type} {l : List α} {i : Nat} (h : i < l.length) : l.drop i = l[i] :: l.drop (i + 1) := List.drop_eq_getElem_cons h
theorem get_some {α : Type} {l : List α} {i : Nat} (h : i < l.length) : l[i]? = some l[i] := List.getElem?_eq_getElem h
theorem drop_nil {α : Type} {l : List α} {i : Nat} (h : ¬ i < l.length) : l.drop i = [] := List.drop_eq_nil_of_le (by omega)
theorem sub_ok {α : Type} {l : List α} {a b : Nat} (h : a ≤ b) (hb : b ≤ l.length) : sub l (a : Int) (b : Int) = some ((l.drop a).take (b - a)) := by
  unfold sub
  rw [if_pos ⟨by omega, by omega, by omega⟩, Int.toNat_natCast, Int.toNat_natCast]
theorem put_ok {α : Type} {l : List α} {i : Nat} {x : α} (h : i < l.length) : put l (i : Int) x = some (l.set i x) := by
  unfold put
  rw [if_pos ⟨by omega, by omega⟩, Int.toNat_natCast]
theorem nilC_eq {R : Type} {e : Bool} {x y : Option R} (h : e = true → x = y) : nilC e x y = y := by
  unfold nilC
  cases e with
  | true => rw [h rfl]; exact agree_self y
  | false => rfl
theorem clone_eq {α : Type} {b : Nat} {l : List α} (h : l.length ≤ 1000000) (hb : b ≤ 1000) : nilC l.isEmpty (some ([] : List α)) ((app b ([] : List α) l).bind fun l1 => some l1) = some l := by
  have h1 : app b ([] : List α) l = some l := by rw [app_lt (by simpa using h) hb]; rfl
  rw [h1]
  exact nilC_eq fun he => by simp at he; subst he; rfl
def runL {α σ R : Type} (step : Nat → α → σ → Option R ⊕ σ) (fin : σ → Option R) : List α → Nat → σ → Option R
  | [], _, s => fin s
  | x :: t, i, s => match step i x s with
    | .inl v => v
    | .inr s' => runL step fin t (i + 1) s'
theorem run_loop {T α σ R : Type} {F : (T → Option R) → T → Option R} (l : List α) (mk : Nat → σ → T) (step : Nat → α → σ → Option R ⊕ σ) (fin : σ → Option R)
    (hF : ∀ r i s x, l[i]? = some x → i < l.length → F r (mk i s) = match step i x s with | .inl v => v | .inr s' => r (mk (i + 1) s'))
    (hE : ∀ r s, F r (mk l.length s) = fin s) : ∀ m i s, i ≤ l.length → l.length - i < m → loopF F m (mk i s) = runL step fin (l.drop i) i s := by
  intro m
  induction m with
  | zero => intro i s _ h; omega
  | succ m ih =>
    intro i s hi hm
    show F (loopF F m) (mk i s) = _
    by_cases h : i < l.length
    · rw [hF _ i s _ (get_some h) h, drop_cons h]
      simp only [runL]
      cases step i l[i] s with
      | inl v => rfl
      | inr s' => exact ih (i + 1) s' (by omega) (by omega)
    · obtain rfl : i = l.length := by omega
      rw [hE, drop_nil h]; rfl
theorem run_loopI {T α σ R : Type} {F : (T → Option R) → T → Option R} (l : List α) (mk : Nat → σ → T) (step : Nat → α → σ → Option R ⊕ σ) (fin : σ → Option R) (I : Nat → σ → Prop)
    (hI : ∀ i s x s', l[i]? = some x → I i s → step i x s = .inr s' → I (i + 1) s')
    (hF : ∀ r i s x, l[i]? = some x → i < l.length → I i s → F r (mk i s) = match step i x s with | .inl v => v | .inr s' => r (mk (i + 1) s'))
    (hE : ∀ r s, I l.length s → F r (mk l.length s) = fin s) : ∀ m i s, i ≤ l.length → l.length - i < m → I i s → loopF F m (mk i s) = runL step fin (l.drop i) i s := by
  intro m
  induction m with
  | zero => intro i s _ h; omega
  | succ m ih =>
    intro i s hi hm hs
    show F (loopF F m) (mk i s) = _
    by_cases h : i < l.length
    · rw [hF _ i s _ (get_some h) h hs, drop_cons h]
      simp only [runL]
      cases hst : step i l[i] s with
      | inl v => rfl
      | inr s' => exact ih (i + 1) s' (by omega) (by omega) (hI i s _ s' (get_some h) hs hst)
    · obtain rfl : i = l.length := by omega
      rw [hE _ _ hs, drop_nil h]; rfl
end Go.Bur
namespace Go.Bur
open Go.RowKit
set_option linter.unusedVariables false
set_option linter.unusedSimpArgs false
theorem runL_skip {α σ R : Type} {fin : σ → Option R} {s : σ} : ∀ (l : List α) (i : Nat), runL (fun _ _ s => .inr s) fin l i s = fin s
  | [], _ => rfl
  | _ :: t, i => runL_skip t (i + 1)
theorem runL_all {α R : Type} {p : α → Bool} {v : Option R} {fin : Unit → Option R} : ∀ (l : List α) (i : Nat), runL (fun _ x (_ : Unit) => if p x then .inr () else .inl v) fin l i () = if l.all p then fin () else v
  | [], _ => rfl
  | x :: t, i => by
    by_cases hp : p x = true
    · simp only [runL, List.all_cons, hp, if_true, Bool.true_and]; exact runL_all t (i + 1)
    · have hp : p x = false := by simpa using hp
      simp [runL, hp]
theorem runL_find0 {α R : Type} {p : α → Bool} {f : Nat → Option R} {fin : Unit → Option R} : ∀ (l : List α) (i : Nat), runL (fun i x (_ : Unit) => if p x then .inl (f i) else .inr ()) fin l i () = match l.findIdx? p with | some j => f (i + j) | none => fin ()
  | [], _ => rfl
  | x :: t, i => by
    rw [List.findIdx?_cons]
    by_cases hp : p x = true
    · simp [runL, hp]
    · have hp : p x = false := by simpa using hp
      simp only [runL, hp, Bool.false_eq_true, if_false]
      rw [runL_find0 t (i + 1)]
      cases t.findIdx? p with
      | none => rfl
      | some j => simp only [Option.map_some]; congr 1; omega
def allFrom {α : Type} (p : Nat → α → Bool) : Nat → List α → Bool
  | _, [] => true
  | i, x :: t => p i x && allFrom p (i + 1) t
theorem runL_allFrom {α R : Type} {p : Nat → α → Bool} {v : Option R} {fin : Unit → Option R} : ∀ (l : List α) (i : Nat), runL (fun i x (_ : Unit) => if p i x then .inr () else .inl v) fin l i () = if allFrom p i l then fin () else v
  | [], _ => rfl
  | x :: t, i => by
    by_cases hp : p i x = true
    · simp only [runL, allFrom, hp, if_true, Bool.true_and]; exact runL_allFrom t (i + 1)
    · have hp : p i x = false := by simpa using hp
      simp [runL, allFrom, hp]
theorem ibeq (a b : Int) : (a == b) = decide (a = b) := by
  by_cases h : a = b
  · subst h; simp
  · rw [decide_eq_false h]; simp [h]
theorem ibne (a b : Int) : (a != b) = !decide (a = b) := by rw [bne, ibeq]
theorem ieqN {k m : Nat} : (((k : Int)) == (m : Int)) = decide (k = m) := by
  rw [ibeq]
  by_cases h : k = m
  · subst h; simp
  · rw [decide_eq_false h, decide_eq_false (by omega)]
theorem ineN {k m : Nat} : (((k : Int)) != (m : Int)) = !decide (k = m) := by rw [bne, ieqN]
theorem bsearch {T R : Type} {F : (T → Option R) → T → Option R} (mk : Nat → Nat → T) (a len : Nat) (fin : Option R)
    (hlo : ∀ r i j, i < j → j ≤ len → (i + j) / 2 < a → F r (mk i j) = r (mk ((i + j) / 2 + 1) j))
    (hhi : ∀ r i j, i < j → j ≤ len → a ≤ (i + j) / 2 → F r (mk i j) = r (mk i ((i + j) / 2)))
    (hE : ∀ r, F r (mk a a) = fin) : ∀ m i j, i ≤ a → a ≤ j → j ≤ len → j - i < m → loopF F m (mk i j) = fin
  | 0, i, j, _, _, _, h => by omega
  | m + 1, i, j, h1, h2, h3, h => by
    show F (loopF F m) (mk i j) = fin
    by_cases hij : i < j
    · by_cases hA : (i + j) / 2 < a
      · rw [hlo _ i j hij h3 hA]
        exact bsearch mk a len fin hlo hhi hE m _ j (by omega) h2 h3 (by omega)
      · rw [hhi _ i j hij h3 (by omega)]
        exact bsearch mk a len fin hlo hhi hE m i _ h1 (by omega) (by omega) (by omega)
    · obtain rfl : i = a := by omega
      obtain rfl : j = i := by omega
      exact hE _
end Go.Bur
namespace Go.Bur
open Go.RowKit
set_option linter.unusedVariables false
set_option linter.unusedSimpArgs false
theorem runL_fold {α σ R : Type} {g : α → σ → σ} {fin : σ → Option R} : ∀ (l : List α) (i : Nat) (s : σ), runL (fun _ x s => .inr (g x s)) fin l i s = fin (l.foldl (fun s x => g x s) s)
  | [], _, _ => rfl
  | x :: t, i, s => by simp only [runL, List.foldl_cons]; exact runL_fold t (i + 1) (g x s)
theorem foldl_inv {α σ : Type} {g : σ → α → σ} {I : σ → Prop} : ∀ {l : List α} {s : σ}, I s → (∀ s x, x ∈ l → I s → I (g s x)) → I (l.foldl g s)
  | [], _, h, _ => h
  | x :: t, s, h, k => foldl_inv (l := t) (k s x (List.mem_cons_self ..) h) fun s y hy hs => k s y (List.mem_cons_of_mem _ hy) hs
def prevOk {α : Type} (r : α → α → Bool) (x : α) : Option α → Bool
  | none => true
  | some y => r y x
def prevO {α : Type} (l : List α) : Nat → Option α
  | 0 => none
  | j + 1 => l[j]?
def stepA {α : Type} (p : α → Bool) (r : α → α → Bool) (l : List α) (i : Nat) (x : α) : Bool := p x && prevOk r x (prevO l i)
def chainB {α : Type} (p : α → Bool) (r : α → α → Bool) : Option α → List α → Bool
  | _, [] => true
  | o, x :: t => p x && prevOk r x o && chainB p r (some x) t
theorem chain_from {α : Type} {p : α → Bool} {r : α → α → Bool} (l : List α) : ∀ (t pre : List α), l = pre ++ t → allFrom (stepA p r l) pre.length t = chainB p r pre.getLast? t
  | [], _, _ => rfl
  | x :: t, pre, h => by
    have h' : l = (pre ++ [x]) ++ t := by rw [h]; simp
    have ih := chain_from (p := p) (r := r) l t (pre ++ [x]) h'
    rw [List.length_append, List.length_singleton, List.getLast?_concat] at ih
    simp only [allFrom, chainB, ih]
    congr 1
    unfold stepA
    congr 1
    congr 1
    rcases List.eq_nil_or_concat pre with rfl | ⟨q, y, rfl⟩
    · rfl
    · simp only [List.concat_eq_append, List.length_append, List.length_singleton, List.getLast?_concat]
      rw [h]
      simp [prevO]
theorem allFrom_chain {α : Type} {p : α → Bool} {r : α → α → Bool} (l : List α) : allFrom (stepA p r l) 0 l = chainB p r none l := chain_from l l [] rfl
theorem chain_iff {α : Type} {p : α → Bool} {r : α → α → Bool} (tr : ∀ a b c, r a b = true → r b c = true → r a c = true) : ∀ {l : List α} {o : Option α},
    chainB p r o l = true ↔ (∀ x ∈ l, p x = true) ∧ l.Pairwise (fun a b => r a b = true) ∧ ∀ y, o = some y → ∀ x ∈ l, r y x = true
  | [], o => by simp [chainB]
  | x :: t, o => by
    simp only [chainB, Bool.and_eq_true, chain_iff tr (l := t), List.mem_cons, forall_eq_or_imp, List.pairwise_cons]
    constructor
    · rintro ⟨⟨h1, h2⟩, h3, h4, h5⟩
      refine ⟨⟨h1, h3⟩, ⟨fun z hz => h5 x rfl z hz, h4⟩, fun y hy => ?_⟩
      subst hy
      exact ⟨h2, fun z hz => tr y x z h2 (h5 x rfl z hz)⟩
    · rintro ⟨⟨h1, h3⟩, ⟨h5, h4⟩, h6⟩
      refine ⟨⟨h1, ?_⟩, h3, h4, fun y hy z hz => ?_⟩
      · cases o with
        | none => rfl
        | some y => exact (h6 y rfl).1
      · cases hy; exact h5 z hz
structure Cut {α : Type} (c : α → Int) (l A : List α) (y : Option α) (B : List α) : Prop where
  eq : l = A ++ (y.toList ++ B)
  lo : ∀ x ∈ A, c x < 0
  mid : ∀ x, y = some x → c x = 0
  hi : ∀ x ∈ B, 0 < c x
theorem cut_ex {α : Type} {c : α → Int} : ∀ {l : List α}, l.Pairwise (fun a b => 0 ≤ c a → 0 < c b) → ∃ A y B, Cut c l A y B
  | [], _ => ⟨[], none, [], ⟨rfl, by simp, by simp, by simp⟩⟩
  | x :: l, h => by
    rw [List.pairwise_cons] at h
    rcases Int.lt_trichotomy (c x) 0 with h1 | h1 | h1
    · obtain ⟨A, y, B, ha⟩ := cut_ex h.2
      refine ⟨x :: A, y, B, ⟨by rw [ha.eq]; rfl, fun r hr => ?_, ha.mid, ha.hi⟩⟩
      rcases List.mem_cons.1 hr with rfl | hr
      · exact h1
      · exact ha.lo r hr
    · exact ⟨[], some x, l, ⟨rfl, by simp, fun r hr => by cases hr; exact h1, fun r hr => h.1 r hr (by omega)⟩⟩
    · refine ⟨[], none, x :: l, ⟨rfl, by simp, by simp, fun r hr => ?_⟩⟩
      rcases List.mem_cons.1 hr with rfl | hr
      · exact h1
      · exact h.1 r hr (by omega)
section
variable {α : Type} {c : α → Int} {l A B : List α} {y : Option α}
theorem cut_len (h : Cut c l A y B) : l.length = A.length + (y.toList.length + B.length) := by rw [h.eq]; simp
theorem cut_lt (h : Cut c l A y B) {i : Nat} (hi : i < l.length) (hA : i < A.length) : c l[i] < 0 := by
  have e := h.eq
  subst e
  rw [List.getElem_append_left hA]
  exact h.lo _ (List.getElem_mem hA)
theorem cut_ge (h : Cut c l A y B) {i : Nat} (hi : i < l.length) (hA : A.length ≤ i) : ¬ c l[i] < 0 := by
  have e := h.eq
  subst e
  rw [List.getElem_append_right hA]
  have hm := List.getElem_mem (l := y.toList ++ B) (n := i - A.length) (by simp at hi ⊢; omega)
  rcases List.mem_append.1 hm with hm | hm
  · cases y with
    | none => cases hm
    | some r =>
      simp only [Option.toList_some, List.mem_singleton] at hm
      simp only [Option.toList_some] at hm ⊢
      rw [hm, h.mid r rfl]; omega
  · have := h.hi _ hm
    omega
theorem cut_idx {r : α} (h : Cut c l A (some r) B) : idx l (A.length : Int) = some r := by
  rw [idx_nat, h.eq, List.getElem?_append_right (Nat.le_refl _)]; simp
theorem cut_at (h : Cut c l A y B) (hA : A.length < l.length) : (c l[A.length] == 0) = y.isSome := by
  cases y with
  | some r =>
    have h5 := cut_idx h
    rw [idx_nat, get_some hA] at h5
    injection h5 with h5
    rw [h5, h.mid r rfl]; rfl
  | none =>
    have e := h.eq
    have hm : l[A.length] ∈ B := by
      subst e
      rw [List.getElem_append_right (Nat.le_refl _)]
      exact List.getElem_mem _
    have h6 := h.hi _ hm
    simp only [Option.isSome_none, beq_eq_false_iff_ne]
    omega
theorem cut_end (h : Cut c l A y B) (hA : ¬ A.length < l.length) : y.isSome = false := by
  have hlen := cut_len h
  cases y with
  | some r => simp at hlen; omega
  | none => rfl
def layS (c : α → Int) (o x : α) (s : Bool × List α) : Bool × List α :=
  let s1 := if !s.1 && decide (c x ≥ 0) then (true, s.2 ++ [o]) else s
  if c x = 0 then s1 else (s1.1, s1.2 ++ [x])
theorem layS_len {o x : α} {s : Bool × List α} : (layS c o x s).2.length ≤ s.2.length + 2 := by
  unfold layS
  simp only
  split <;> split <;> (try simp) <;> omega
def layE (o : α) (s : Bool × List α) : List α := if s.1 then s.2 else s.2 ++ [o]
theorem lay_lo {o : α} : ∀ {A : List α} {b : Bool} {acc : List α}, (∀ x ∈ A, c x < 0) → A.foldl (fun s x => layS c o x s) (b, acc) = (b, acc ++ A)
  | [], b, acc, _ => by simp
  | x :: A, b, acc, h => by
    have hx := h x (List.mem_cons_self ..)
    rw [List.foldl_cons]
    have e : layS c o x (b, acc) = (b, acc ++ [x]) := by
      unfold layS
      simp only [decide_eq_false (show ¬ c x ≥ 0 by omega), Bool.and_false, Bool.false_eq_true, if_false, if_neg (show ¬ c x = 0 by omega)]
    rw [e, lay_lo fun z hz => h z (List.mem_cons_of_mem _ hz)]
    simp
theorem lay_on {o : α} : ∀ {B : List α} {acc : List α}, (∀ x ∈ B, 0 < c x) → B.foldl (fun s x => layS c o x s) (true, acc) = (true, acc ++ B)
  | [], acc, _ => by simp
  | x :: B, acc, h => by
    have hx := h x (List.mem_cons_self ..)
    rw [List.foldl_cons]
    have e : layS c o x (true, acc) = (true, acc ++ [x]) := by
      unfold layS
      simp only [Bool.not_true, Bool.false_and, Bool.false_eq_true, if_false, if_neg (show ¬ c x = 0 by omega)]
    rw [e, lay_on fun z hz => h z (List.mem_cons_of_mem _ hz)]
    simp
theorem lay_hi {o : α} {B : List α} {acc : List α} (h : ∀ x ∈ B, 0 < c x) : layE o (B.foldl (fun s x => layS c o x s) (false, acc)) = acc ++ o :: B := by
  cases B with
  | nil => simp [layE]
  | cons x B =>
    have hx := h x (List.mem_cons_self ..)
    rw [List.foldl_cons]
    have e : layS c o x (false, acc) = (true, acc ++ [o] ++ [x]) := by
      unfold layS
      simp only [Bool.not_false, Bool.true_and, decide_eq_true (show c x ≥ 0 by omega), if_true, if_neg (show ¬ c x = 0 by omega)]
    rw [e, lay_on fun z hz => h z (List.mem_cons_of_mem _ hz)]
    simp [layE]
theorem lay_in {o : α} {acc : List α} (h : Cut c l A y B) : layE o (l.foldl (fun s x => layS c o x s) (false, acc)) = acc ++ (A ++ o :: B) := by
  rw [h.eq, List.foldl_append, List.foldl_append, lay_lo h.lo]
  cases y with
  | none => simp only [Option.toList_none, List.foldl_nil]; rw [lay_hi h.hi]; simp
  | some r =>
    have e : layS c o r (false, acc ++ A) = (true, acc ++ A ++ [o]) := by
      unfold layS
      simp only [Bool.not_false, Bool.true_and, decide_eq_true (show c r ≥ 0 by rw [h.mid r rfl]; omega), if_true, if_pos (h.mid r rfl)]
    simp only [Option.toList_some, List.foldl_cons, List.foldl_nil]
    rw [e, lay_on h.hi]
    simp [layE]
theorem insL_cut {b : Nat} (h : Cut c l A none B) (o : α) (hl : l.length ≤ 1000) (hb : b ≤ 1000) : insL b l (A.length : Int) [o] = some (A ++ o :: B) := by
  have hlen := cut_len h
  unfold insL
  rw [if_pos ⟨by omega, by simp at hlen; omega⟩, room_ok (Nat.le_trans (Nat.mul_le_mul (show l.length + [o].length ≤ 1001 by simp; omega) hb) (by decide)), h.eq]
  simp
end
theorem idx_app {α : Type} {A B : List α} {o : α} : idx (A ++ o :: B) (A.length : Int) = some o := by
  rw [idx_nat, List.getElem?_append_right (Nat.le_refl _)]; simp
theorem put_app {α : Type} {A B : List α} {o x : α} : put (A ++ o :: B) (A.length : Int) x = some (A ++ x :: B) := by
  rw [put_ok (by simp)]; simp
theorem set_same {α : Type} {l : List α} {i : Nat} {x : α} (h : l[i]? = some x) : l.set i x = l := by
  obtain ⟨hi, rfl⟩ := List.getElem?_eq_some_iff.1 h
  exact List.set_getElem_self hi
theorem loop_to {T σ R : Type} {F : (T → Option R) → T → Option R} (v : Option R) (len : Nat) (mk : Nat → σ → T) (I : Nat → σ → Prop)
    (h : ∀ r i s, i < len → I i s → F r (mk i s) = v ∨ ∃ s', F r (mk i s) = r (mk (i + 1) s') ∧ I (i + 1) s') (hE : ∀ r s, I len s → F r (mk len s) = v) : ∀ m i s, i ≤ len → len - i < m → I i s → loopF F m (mk i s) = v := by
  intro m
  induction m with
  | zero => intro i s _ h; omega
  | succ m ih =>
    intro i s hi hm hs
    show F (loopF F m) (mk i s) = v
    by_cases hlt : i < len
    · rcases h (loopF F m) i s hlt hs with h1 | ⟨s', h1, h2⟩
      · exact h1
      · rw [h1]; exact ih (i + 1) s' (by omega) (by omega) h2
    · obtain rfl : i = len := by omega
      exact hE _ s hs
end Go.Bur
namespace Go.Bur
open Go.RowKit
set_option linter.unusedVariables false
set_option linter.unusedSimpArgs false
inductive Wy (r : Int → Int → Prop) : Int → Int → Prop
  | one {a b : Int} : r a b → Wy r a b
  | step {a b c : Int} : r a c → Wy r c b → Wy r a b
section
variable {r q : Int → Int → Prop} {a b c : Int}
theorem Wy.trans (h : Wy r a b) (k : Wy r b c) : Wy r a c := by
  induction h with
  | one h => exact .step h k
  | step h _ ih => exact .step h (ih k)
theorem Wy.mono (hm : ∀ x y, r x y → q x y) (h : Wy r a b) : Wy q a b := by
  induction h with
  | one h => exact .one (hm _ _ h)
  | step h _ ih => exact .step (hm _ _ h) ih
inductive AW (r : Int → Int → Prop) (S : Int → Prop) : Int → Int → Prop
  | one {a b : Int} : r a b → AW r S a b
  | step {a b c : Int} : r a c → ¬ S c → AW r S c b → AW r S a b
theorem AW.way {S : Int → Prop} (h : AW r S a b) : Wy r a b := by
  induction h with
  | one h => exact .one h
  | step h _ _ ih => exact .step h ih
theorem AW.cut {S : Int → Prop} (n : Int) (h : AW r S a b) : AW r (fun x => S x ∨ x = n) a b ∨ AW r (fun x => S x ∨ x = n) n b := by
  induction h with
  | one h => exact .inl (.one h)
  | @step a b c h hs _ ih =>
    rcases ih with ih | ih
    · by_cases e : c = n
      · subst e; exact .inr ih
      · exact .inl (.step h (fun k => k.elim hs e) ih)
    · exact .inr ih
theorem AW.mono {S T : Int → Prop} (hs : ∀ x, T x → S x) (h : AW r S a b) : AW r T a b := by
  induction h with
  | one h => exact .one h
  | step h k _ ih => exact .step h (fun t => k (hs _ t)) ih
end
theorem up_ext : ∀ {l m : List Int}, l.Pairwise (· < ·) → m.Pairwise (· < ·) → (∀ x, x ∈ l ↔ x ∈ m) → l = m
  | [], [], _, _, _ => rfl
  | [], y :: m, _, _, h => absurd ((h y).2 (List.mem_cons_self ..)) (by simp)
  | x :: l, [], _, _, h => absurd ((h x).1 (List.mem_cons_self ..)) (by simp)
  | x :: l, y :: m, h1, h2, h => by
    obtain ⟨a1, a2⟩ := List.pairwise_cons.1 h1
    obtain ⟨b1, b2⟩ := List.pairwise_cons.1 h2
    have e : x = y := by
      have hx := (h x).1 (List.mem_cons_self ..)
      have hy := (h y).2 (List.mem_cons_self ..)
      rcases List.mem_cons.1 hx with e | hx
      · exact e
      · rcases List.mem_cons.1 hy with e | hy
        · exact e.symm
        · have := a1 y hy; have := b1 x hx; omega
    subst e
    congr 1
    refine up_ext a2 b2 fun z => ?_
    constructor
    · intro hz
      rcases List.mem_cons.1 ((h z).1 (List.mem_cons_of_mem _ hz)) with e | hm
      · subst e; have := a1 z hz; omega
      · exact hm
    · intro hz
      rcases List.mem_cons.1 ((h z).2 (List.mem_cons_of_mem _ hz)) with e | hm
      · subst e; have := b1 z hz; omega
      · exact hm
theorem mem_sortZ {x : Int} {l : List Int} : x ∈ sortZ l ↔ x ∈ l := (List.mergeSort_perm l _).mem_iff
theorem sortZ_le (l : List Int) : (sortZ l).Pairwise (· ≤ ·) := by
  have h := List.pairwise_mergeSort (le := fun x y : Int => decide (x ≤ y)) (fun a b c h1 h2 => decide_eq_true (by have := of_decide_eq_true h1; have := of_decide_eq_true h2; omega)) (fun a b => by
    rw [Bool.or_eq_true, decide_eq_true_iff, decide_eq_true_iff]; omega) l
  exact h.imp fun h => of_decide_eq_true h
end Go.Bur
