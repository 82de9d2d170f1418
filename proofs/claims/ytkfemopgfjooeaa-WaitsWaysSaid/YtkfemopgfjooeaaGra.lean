/- Plain lemmas on lists, numbers and loops, for laws. -/
import Derived.Test.YtkfemopgfjooeaaHn
import Derived.Test.YtkfemopgfjooeaaSg
namespace Go.Bur
open Go.RowKit
set_option linter.unusedVariables false
set_option linter.unusedSimpArgs false

theorem idx_nat {α : Type} (l : List α) (i : Nat) : idx l (i : Int) = l[i]? := by
  unfold idx
  rw [if_pos (Int.natCast_nonneg i), Int.toNat_natCast]
theorem idx_zero {α : Type} (l : List α) : idx l 0 = l[0]? := idx_nat l 0
theorem wrap_succ {i : Nat} (h : i < 4611686018427387904) : IntKind.wrap .i64 ((i : Int) + 1) = ((i + 1 : Nat) : Int) := by rw [IntKind.wrap_i64]; omega
theorem wrap_pred {i : Nat} (h : i < 4611686018427387904) : IntKind.wrap .i64 (((i + 1 : Nat) : Int) - 1) = (i : Int) := by rw [IntKind.wrap_i64]; omega
theorem lt_dec {i n : Nat} (h : i < n) : decide ((i : Int) < (n : Int)) = true := decide_eq_true (by omega)
theorem ge_dec {i n : Nat} (h : ¬ i < n) : decide ((i : Int) < (n : Int)) = false := decide_eq_false (by omega)
theorem room_ok {k b : Nat} (h : k * b ≤ 140737488355328) : room k b = true := Nat.ble_eq_true_of_le h
theorem app_ok {α : Type} {b : Nat} {l m : List α} (h : (l.length + m.length) * b ≤ 140737488355328) : app b l m = some (l ++ m) := by
  unfold app; rw [room_ok h]
theorem app_lt {α : Type} {b : Nat} {l m : List α} (h : l.length + m.length ≤ 1000000) (hb : b ≤ 1000) : app b l m = some (l ++ m) :=
  app_ok (Nat.le_trans (Nat.mul_le_mul h hb) (by decide))
theorem drop_cons {α : Type} {l : List α} {i : Nat} (h : i < l.length) : l.drop i = l[i] :: l.drop (i + 1) := List.drop_eq_getElem_cons h
theorem get_some {α : Type} {l : List α} {i : Nat} (h : i < l.length) : l[i]? = some l[i] := List.getElem?_eq_getElem h
theorem drop_nil {α : Type} {l : List α} {i : Nat} (h : ¬ i < l.length) : l.drop i = [] := List.drop_eq_nil_of_le (by omega)
theorem bindE {α β : Type} {o : Option α} {x : α} {k : α → Option β} (h : o = some x) : o.bind k = k x := by rw [h]; rfl
theorem nilC_eq {R : Type} {e : Bool} {x y : Option R} (h : e = true → x = y) : nilC e x y = y := by
  unfold nilC
  cases e with
  | true => rw [h rfl]; exact agree_self y
  | false => rfl
/-- A copy of a slice. -/
theorem clone_eq {α : Type} {b : Nat} {l : List α} (h : l.length ≤ 1000000) (hb : b ≤ 1000) : nilC l.isEmpty (some ([] : List α)) ((app b ([] : List α) l).bind fun l1 => some l1) = some l := by
  have h1 : app b ([] : List α) l = some l := by rw [app_lt (by simpa using h) hb]; rfl
  rw [h1]
  exact nilC_eq fun he => by simp at he; subst he; rfl

/-- A loop over a list, as a walk over what is left of it. -/
def runL {α σ R : Type} (step : Nat → α → σ → Option R ⊕ σ) (fin : σ → Option R) : List α → Nat → σ → Option R
  | [], _, s => fin s
  | x :: t, i, s => match step i x s with
    | .inl v => v
    | .inr s' => runL step fin t (i + 1) s'
theorem run_loop {T α σ R : Type} {F : (T → Option R) → T → Option R} (l : List α) (mk : Nat → σ → T) (step : Nat → α → σ → Option R ⊕ σ) (fin : σ → Option R)
    (hF : ∀ r i s x, l[i]? = some x → i < l.length → F r (mk i s) = match step i x s with | .inl v => v | .inr s' => r (mk (i + 1) s'))
    (hE : ∀ r s, F r (mk l.length s) = fin s) : ∀ m i s, i ≤ l.length → l.length - i < m → loopF F m (mk i s) = runL step fin (l.drop i) i s := by
  intro m
  induction m with
  | zero => intro i s _ h; omega
  | succ m ih =>
    intro i s hi hm
    show F (loopF F m) (mk i s) = _
    by_cases h : i < l.length
    · rw [hF _ i s _ (get_some h) h, drop_cons h]
      simp only [runL]
      cases step i l[i] s with
      | inl v => rfl
      | inr s' => exact ih (i + 1) s' (by omega) (by omega)
    · obtain rfl : i = l.length := by omega
      rw [hE, drop_nil h]; rfl
theorem run_loopI {T α σ R : Type} {F : (T → Option R) → T → Option R} (l : List α) (mk : Nat → σ → T) (step : Nat → α → σ → Option R ⊕ σ) (fin : σ → Option R) (I : Nat → σ → Prop)
    (hI : ∀ i s x s', l[i]? = some x → I i s → step i x s = .inr s' → I (i + 1) s')
    (hF : ∀ r i s x, l[i]? = some x → i < l.length → I i s → F r (mk i s) = match step i x s with | .inl v => v | .inr s' => r (mk (i + 1) s'))
    (hE : ∀ r s, I l.length s → F r (mk l.length s) = fin s) : ∀ m i s, i ≤ l.length → l.length - i < m → I i s → loopF F m (mk i s) = runL step fin (l.drop i) i s := by
  intro m
  induction m with
  | zero => intro i s _ h; omega
  | succ m ih =>
    intro i s hi hm hs
    show F (loopF F m) (mk i s) = _
    by_cases h : i < l.length
    · rw [hF _ i s _ (get_some h) h hs, drop_cons h]
      simp only [runL]
      cases hst : step i l[i] s with
      | inl v => rfl
      | inr s' => exact ih (i + 1) s' (by omega) (by omega) (hI i s _ s' (get_some h) hs hst)
    · obtain rfl : i = l.length := by omega
      rw [hE _ _ hs, drop_nil h]; rfl
end Go.Bur

/- More plain lemmas on loops over lists. -/
namespace Go.Bur
open Go.RowKit
set_option linter.unusedVariables false
set_option linter.unusedSimpArgs false

theorem runL_skip {α σ R : Type} {fin : σ → Option R} {s : σ} : ∀ (l : List α) (i : Nat), runL (fun _ _ s => .inr s) fin l i s = fin s
  | [], _ => rfl
  | _ :: t, i => runL_skip t (i + 1)
theorem runL_any {α R : Type} {p : α → Bool} {v : Option R} {fin : Unit → Option R} : ∀ (l : List α) (i : Nat), runL (fun _ x (_ : Unit) => if p x then .inl v else .inr ()) fin l i () = if l.any p then v else fin ()
  | [], _ => rfl
  | x :: t, i => by
    by_cases hp : p x = true
    · simp [runL, hp]
    · have hp : p x = false := by simpa using hp
      simp only [runL, hp, List.any_cons, Bool.false_or]; exact runL_any t (i + 1)
theorem runL_find0 {α R : Type} {p : α → Bool} {f : Nat → Option R} {fin : Unit → Option R} : ∀ (l : List α) (i : Nat), runL (fun i x (_ : Unit) => if p x then .inl (f i) else .inr ()) fin l i () = match l.findIdx? p with | some j => f (i + j) | none => fin ()
  | [], _ => rfl
  | x :: t, i => by
    rw [List.findIdx?_cons]
    by_cases hp : p x = true
    · simp [runL, hp]
    · have hp : p x = false := by simpa using hp
      simp only [runL, hp, Bool.false_eq_true, if_false]
      rw [runL_find0 t (i + 1)]
      cases t.findIdx? p with
      | none => rfl
      | some j => simp only [Option.map_some]; congr 1; omega
/-- All from a place on, with their places. -/
def allFrom {α : Type} (p : Nat → α → Bool) : Nat → List α → Bool
  | _, [] => true
  | i, x :: t => p i x && allFrom p (i + 1) t
/-- A list gathered: what is kept. -/
theorem runL_filter {α R : Type} {p : α → Bool} {fin : List α → Option R} : ∀ (l : List α) (i : Nat) (s : List α), runL (fun _ x s => .inr (if p x then s ++ [x] else s)) fin l i s = fin (s ++ l.filter p)
  | [], _, s => by simp [runL]
  | x :: t, i, s => by
    simp only [runL]
    rw [runL_filter t]
    by_cases hp : p x = true
    · simp [hp]
    · simp [hp]
theorem ibeq (a b : Int) : (a == b) = decide (a = b) := by
  by_cases h : a = b
  · subst h; simp
  · rw [decide_eq_false h]; simp [h]
theorem ibne (a b : Int) : (a != b) = !decide (a = b) := by rw [bne, ibeq]
end Go.Bur

/- More plain lemmas: loops as folds, lists in order, searches, things put into their place. -/
namespace Go.Bur
open Go.RowKit
set_option linter.unusedVariables false
set_option linter.unusedSimpArgs false

/-! ### Loops as folds -/
theorem runL_fold {α σ R : Type} {g : α → σ → σ} {fin : σ → Option R} : ∀ (l : List α) (i : Nat) (s : σ), runL (fun _ x s => .inr (g x s)) fin l i s = fin (l.foldl (fun s x => g x s) s)
  | [], _, _ => rfl
  | x :: t, i, s => by simp only [runL, List.foldl_cons]; exact runL_fold t (i + 1) (g x s)
theorem foldl_inv {α σ : Type} {g : σ → α → σ} {I : σ → Prop} : ∀ {l : List α} {s : σ}, I s → (∀ s x, x ∈ l → I s → I (g s x)) → I (l.foldl g s)
  | [], _, h, _ => h
  | x :: t, s, h, k => foldl_inv (l := t) (k s x (List.mem_cons_self ..) h) fun s y hy hs => k s y (List.mem_cons_of_mem _ hy) hs

/-! ### Each of a list, and each two that follow one another -/
def prevOk {α : Type} (r : α → α → Bool) (x : α) : Option α → Bool
  | none => true
  | some y => r y x
def prevO {α : Type} (l : List α) : Nat → Option α
  | 0 => none
  | j + 1 => l[j]?
def stepA {α : Type} (p : α → Bool) (r : α → α → Bool) (l : List α) (i : Nat) (x : α) : Bool := p x && prevOk r x (prevO l i)
def chainB {α : Type} (p : α → Bool) (r : α → α → Bool) : Option α → List α → Bool
  | _, [] => true
  | o, x :: t => p x && prevOk r x o && chainB p r (some x) t
theorem chain_from {α : Type} {p : α → Bool} {r : α → α → Bool} (l : List α) : ∀ (t pre : List α), l = pre ++ t → allFrom (stepA p r l) pre.length t = chainB p r pre.getLast? t
  | [], _, _ => rfl
  | x :: t, pre, h => by
    have h' : l = (pre ++ [x]) ++ t := by rw [h]; simp
    have ih := chain_from (p := p) (r := r) l t (pre ++ [x]) h'
    rw [List.length_append, List.length_singleton, List.getLast?_concat] at ih
    simp only [allFrom, chainB, ih]
    congr 1
    unfold stepA
    congr 1
    congr 1
    rcases List.eq_nil_or_concat pre with rfl | ⟨q, y, rfl⟩
    · rfl
    · simp only [List.concat_eq_append, List.length_append, List.length_singleton, List.getLast?_concat]
      rw [h]
      simp [prevO]
theorem allFrom_chain {α : Type} {p : α → Bool} {r : α → α → Bool} (l : List α) : allFrom (stepA p r l) 0 l = chainB p r none l := chain_from l l [] rfl
theorem chain_iff {α : Type} {p : α → Bool} {r : α → α → Bool} (tr : ∀ a b c, r a b = true → r b c = true → r a c = true) : ∀ {l : List α} {o : Option α},
    chainB p r o l = true ↔ (∀ x ∈ l, p x = true) ∧ l.Pairwise (fun a b => r a b = true) ∧ ∀ y, o = some y → ∀ x ∈ l, r y x = true
  | [], o => by simp [chainB]
  | x :: t, o => by
    simp only [chainB, Bool.and_eq_true, chain_iff tr (l := t), List.mem_cons, forall_eq_or_imp, List.pairwise_cons]
    constructor
    · rintro ⟨⟨h1, h2⟩, h3, h4, h5⟩
      refine ⟨⟨h1, h3⟩, ⟨fun z hz => h5 x rfl z hz, h4⟩, fun y hy => ?_⟩
      subst hy
      exact ⟨h2, fun z hz => tr y x z h2 (h5 x rfl z hz)⟩
    · rintro ⟨⟨h1, h3⟩, ⟨h5, h4⟩, h6⟩
      refine ⟨⟨h1, ?_⟩, h3, h4, fun y hy z hz => ?_⟩
      · cases o with
        | none => rfl
        | some y => exact (h6 y rfl).1
      · cases hy; exact h5 z hz

/-! ### Where a thing is in a list in order -/
section
variable {α : Type} {c : α → Int} {l A B : List α} {y : Option α}
end
/-! ### slices.DeleteFunc -/
theorem bsF_map {α : Type} {f : α → Option Bool} {p : α → Bool} : ∀ {l : List α}, (∀ x ∈ l, f x = some (p x)) → bsF f l = some (l.map p)
  | [], _ => rfl
  | x :: l, h => by
    simp only [bsF, h x (List.mem_cons_self ..), Option.bind_some, bsF_map fun y hy => h y (List.mem_cons_of_mem _ hy), List.map_cons]
theorem keepF_mapP {α : Type} {p : α → Bool} : ∀ {l : List α}, keepF l (l.map p) = l.filter fun x => !p x
  | [] => rfl
  | x :: l => by
    rw [List.map_cons, List.filter_cons]
    cases h : p x with
    | true => simp [keepF_cons, keepF_mapP (l := l)]
    | false => simp [keepF_cons, keepF_mapP (l := l)]
theorem fstOk_find {α : Type} {p : α → Bool} {l : List α} : fstOk (match l.findIdx? p with | some j => (j : Int) | none => -1) (l.map p) = true := by
  cases h : l.findIdx? p with
  | none =>
    have h1 := List.findIdx?_eq_none_iff.1 h
    unfold fstOk
    simp only [decide_true, Bool.true_and, Bool.or_eq_true, List.all_map]
    left
    rw [List.all_eq_true]
    intro x hx
    simp [h1 x hx]
  | some j =>
    obtain ⟨hj, h1, h2⟩ := List.findIdx?_eq_some_iff_getElem.1 h
    unfold fstOk
    simp only [Bool.or_eq_true, Bool.and_eq_true]
    right
    refine ⟨⟨decide_eq_true (by omega), ?_⟩, ?_⟩
    · rw [Int.toNat_natCast, List.getElem?_map, get_some hj]
      exact h1
    · rw [Int.toNat_natCast, ← List.map_take, List.all_map, List.all_eq_true]
      intro x hx
      obtain ⟨k, hk, rfl⟩ := List.mem_take_iff_getElem.1 hx
      have := h2 k (by omega)
      simp only [Function.comp]
      simpa using this
theorem delF_eq {α : Type} {f : α → Option Bool} {p : α → Bool} {l : List α} (h : ∀ x ∈ l, f x = some (p x)) (hl : l.length ≤ 1000000) : delF f (match l.findIdx? p with | some j => (j : Int) | none => -1) l = some (l.filter fun x => !p x) := by
  unfold delF
  rw [bsF_map h]
  simp only [Option.bind_some]
  rw [if_pos ⟨fstOk_find, by omega⟩, keepF_mapP]
/-! ### The first of its kind; a list changed place by place -/
end Go.Bur

/- Ways in a graph; lists of numbers in order. -/
namespace Go.Bur
open Go.RowKit
set_option linter.unusedVariables false
set_option linter.unusedSimpArgs false

/-! ### Ways -/
inductive Wy (r : Int → Int → Prop) : Int → Int → Prop
  | one {a b : Int} : r a b → Wy r a b
  | step {a b c : Int} : r a c → Wy r c b → Wy r a b
section
variable {r q : Int → Int → Prop} {a b c : Int}
theorem Wy.trans (h : Wy r a b) (k : Wy r b c) : Wy r a c := by
  induction h with
  | one h => exact .step h k
  | step h _ ih => exact .step h (ih k)
theorem Wy.snoc (h : Wy r a b) (k : r b c) : Wy r a c := h.trans (.one k)
theorem Wy.mono (hm : ∀ x y, r x y → q x y) (h : Wy r a b) : Wy q a b := by
  induction h with
  | one h => exact .one (hm _ _ h)
  | step h _ ih => exact .step (hm _ _ h) ih
theorem Wy.first (h : Wy r a b) : ∃ c, r a c ∧ (c = b ∨ Wy r c b) := by
  cases h with
  | one h => exact ⟨b, h, .inl rfl⟩
  | step h k => exact ⟨_, h, .inr k⟩
theorem Wy.last (h : Wy r a b) : ∃ c, r c b := by
  induction h with
  | one h => exact ⟨_, h⟩
  | step _ _ ih => exact ih
/-- What is closed holds all that is reached. -/
theorem Wy.closed {S : Int → Prop} (h : Wy r a b) (h1 : ∀ c, r a c → S c) (h2 : ∀ x c, S x → r x c → S c) : S b := by
  induction h with
  | one h => exact h1 _ h
  | step h _ ih => exact ih fun c hc => h2 _ c (h1 _ h) hc
/-- A way that goes through nothing of S. -/
inductive AW (r : Int → Int → Prop) (S : Int → Prop) : Int → Int → Prop
  | one {a b : Int} : r a b → AW r S a b
  | step {a b c : Int} : r a c → ¬ S c → AW r S c b → AW r S a b
theorem AW.way {S : Int → Prop} (h : AW r S a b) : Wy r a b := by
  induction h with
  | one h => exact .one h
  | step h _ _ ih => exact .step h ih
theorem Wy.aw (h : Wy r a b) : AW r (fun _ => False) a b := by
  induction h with
  | one h => exact .one h
  | step h _ ih => exact .step h id ih
theorem AW.cut {S : Int → Prop} (n : Int) (h : AW r S a b) : AW r (fun x => S x ∨ x = n) a b ∨ AW r (fun x => S x ∨ x = n) n b := by
  induction h with
  | one h => exact .inl (.one h)
  | @step a b c h hs _ ih =>
    rcases ih with ih | ih
    · by_cases e : c = n
      · subst e; exact .inr ih
      · exact .inl (.step h (fun k => k.elim hs e) ih)
    · exact .inr ih
theorem AW.strip {S : Int → Prop} (h : AW r S a b) : AW r (fun x => S x ∨ x = a) a b := (h.cut a).elim id id
theorem AW.mono {S T : Int → Prop} (hs : ∀ x, T x → S x) (h : AW r S a b) : AW r T a b := by
  induction h with
  | one h => exact .one h
  | step h k _ ih => exact .step h (fun t => k (hs _ t)) ih
end

/-! ### Lists of numbers in order -/
theorem up_ext : ∀ {l m : List Int}, l.Pairwise (· < ·) → m.Pairwise (· < ·) → (∀ x, x ∈ l ↔ x ∈ m) → l = m
  | [], [], _, _, _ => rfl
  | [], y :: m, _, _, h => absurd ((h y).2 (List.mem_cons_self ..)) (by simp)
  | x :: l, [], _, _, h => absurd ((h x).1 (List.mem_cons_self ..)) (by simp)
  | x :: l, y :: m, h1, h2, h => by
    obtain ⟨a1, a2⟩ := List.pairwise_cons.1 h1
    obtain ⟨b1, b2⟩ := List.pairwise_cons.1 h2
    have e : x = y := by
      have hx := (h x).1 (List.mem_cons_self ..)
      have hy := (h y).2 (List.mem_cons_self ..)
      rcases List.mem_cons.1 hx with e | hx
      · exact e
      · rcases List.mem_cons.1 hy with e | hy
        · exact e.symm
        · have := a1 y hy; have := b1 x hx; omega
    subst e
    congr 1
    refine up_ext a2 b2 fun z => ?_
    constructor
    · intro hz
      rcases List.mem_cons.1 ((h z).1 (List.mem_cons_of_mem _ hz)) with e | hm
      · subst e; have := a1 z hz; omega
      · exact hm
    · intro hz
      rcases List.mem_cons.1 ((h z).2 (List.mem_cons_of_mem _ hz)) with e | hm
      · subst e; have := b1 z hz; omega
      · exact hm
theorem up_nodup {l : List Int} (h : l.Pairwise (· < ·)) : l.Nodup := h.imp fun h => by omega
theorem nodup_ext_len {l m : List Int} (h1 : l.Nodup) (h2 : m.Nodup) (h : ∀ x, x ∈ l ↔ x ∈ m) : l.length = m.length :=
  ((List.perm_ext_iff_of_nodup h1 h2).2 h).length_eq
theorem nodup_sub_len {l m : List Int} (h1 : l.Nodup) (h : ∀ x ∈ l, x ∈ m) : l.length ≤ m.length := by
  induction l generalizing m with
  | nil => simp
  | cons x l ih =>
    obtain ⟨a1, a2⟩ := List.nodup_cons.1 h1
    have hm := h x (List.mem_cons_self ..)
    have := ih (m := m.erase x) a2 fun y hy => by
      have hne : y ≠ x := fun e => a1 (e ▸ hy)
      exact (List.mem_erase_of_ne hne).2 (h y (List.mem_cons_of_mem _ hy))
    rw [List.length_erase_of_mem hm] at this
    have := List.length_pos_of_mem hm
    simp only [List.length_cons]; omega
/-- With one more, in order, once. -/
def insU : List Int → Int → List Int
  | [], n => [n]
  | x :: l, n => if n < x then n :: x :: l else if x = n then x :: l else x :: insU l n
theorem mem_insU {x n : Int} : ∀ {l : List Int}, x ∈ insU l n ↔ x ∈ l ∨ x = n
  | [] => by simp [insU]
  | y :: l => by
    unfold insU
    split
    · simp only [List.mem_cons]
      constructor
      · rintro (h | h | h)
        · exact .inr h
        · exact .inl (.inl h)
        · exact .inl (.inr h)
      · rintro ((h | h) | h)
        · exact .inr (.inl h)
        · exact .inr (.inr h)
        · exact .inl h
    · split
      · rename_i h; subst h
        simp only [List.mem_cons]
        constructor
        · exact .inl
        · rintro (h | h)
          · exact h
          · exact .inl h
      · simp only [List.mem_cons, mem_insU (l := l)]
        constructor
        · rintro (h | h | h)
          · exact .inl (.inl h)
          · exact .inl (.inr h)
          · exact .inr h
        · rintro ((h | h) | h)
          · exact .inl h
          · exact .inr (.inl h)
          · exact .inr (.inr h)
theorem up_insU {n : Int} : ∀ {l : List Int}, l.Pairwise (· < ·) → (insU l n).Pairwise (· < ·)
  | [], _ => by simp [insU]
  | y :: l, h => by
    obtain ⟨h1, h2⟩ := List.pairwise_cons.1 h
    unfold insU
    split
    · rename_i hn
      refine List.pairwise_cons.2 ⟨fun z hz => ?_, h⟩
      rcases List.mem_cons.1 hz with rfl | hz
      · exact hn
      · have := h1 z hz; omega
    · split
      · exact h
      · refine List.pairwise_cons.2 ⟨fun z hz => ?_, up_insU h2⟩
        rcases mem_insU.1 hz with hz | rfl
        · exact h1 z hz
        · omega
/-- Sorted. -/
theorem mem_sortZ {x : Int} {l : List Int} : x ∈ sortZ l ↔ x ∈ l := (List.mergeSort_perm l _).mem_iff
theorem sortZ_le (l : List Int) : (sortZ l).Pairwise (· ≤ ·) := by
  have h := List.pairwise_mergeSort (le := fun x y : Int => decide (x ≤ y)) (fun a b c h1 h2 => decide_eq_true (by have := of_decide_eq_true h1; have := of_decide_eq_true h2; omega)) (fun a b => by
    rw [Bool.or_eq_true, decide_eq_true_iff, decide_eq_true_iff]; omega) l
  exact h.imp fun h => of_decide_eq_true h
theorem sortZ_up {l : List Int} (h : l.Nodup) : (sortZ l).Pairwise (· < ·) := by
  have h1 := sortZ_le l
  have h2 : (sortZ l).Pairwise (· ≠ ·) := (List.mergeSort_perm l _).nodup_iff.2 h
  exact h1.imp₂ (fun a b h1 h2 => by omega) h2
theorem sortZ_ext {l m : List Int} (h1 : l.Nodup) (h2 : m.Nodup) (h : ∀ x, x ∈ l ↔ x ∈ m) : sortZ l = sortZ m :=
  up_ext (sortZ_up h1) (sortZ_up h2) fun x => by rw [mem_sortZ, mem_sortZ]; exact h x
/-- What is not met yet. -/
def unmet (ns : List Int) (p : Int → Bool) : Nat := (ns.filter fun x => !p x).length
theorem unmet_less {ns : List Int} {p q : Int → Bool} (hn : ns.Nodup) {c : Int} (hc : c ∈ ns) (hp : p c = false) (hq : ∀ x, q x = (p x || decide (x = c))) : unmet ns q + 1 = unmet ns p := by
  unfold unmet
  have h1 := strike_len (x := c) (hn.filter fun x => !p x)
  rw [if_pos (List.mem_filter.2 ⟨hc, by simp [hp]⟩), List.filter_filter] at h1
  rw [← h1]
  congr 2
  refine List.filter_congr fun x _ => ?_
  rw [hq]
  cases p x <;> simp
end Go.Bur
