/- More plain lemmas: loops as folds, lists in order, searches, things put into their place. -/
import Derived.Test.YtfidbgcdjmhjnaaLst4
namespace Go.Bur
open Go.RowKit
set_option linter.unusedVariables false
set_option linter.unusedSimpArgs false

/-! ### Loops as folds -/
theorem runL_fold {α σ R : Type} {g : α → σ → σ} {fin : σ → Option R} : ∀ (l : List α) (i : Nat) (s : σ), runL (fun _ x s => .inr (g x s)) fin l i s = fin (l.foldl (fun s x => g x s) s)
  | [], _, _ => rfl
  | x :: t, i, s => by simp only [runL, List.foldl_cons]; exact runL_fold t (i + 1) (g x s)
theorem foldl_same {α σ : Type} {g : σ → α → σ} : ∀ {l : List α} {s : σ}, (∀ x ∈ l, g s x = s) → l.foldl g s = s
  | [], _, _ => rfl
  | x :: t, s, h => by
    rw [List.foldl_cons, h x (List.mem_cons_self ..)]
    exact foldl_same fun y hy => h y (List.mem_cons_of_mem _ hy)
/-! ### Each of a list, and each two that follow one another -/
def prevOk {α : Type} (r : α → α → Bool) (x : α) : Option α → Bool
  | none => true
  | some y => r y x
def prevO {α : Type} (l : List α) : Nat → Option α
  | 0 => none
  | j + 1 => l[j]?
def stepA {α : Type} (p : α → Bool) (r : α → α → Bool) (l : List α) (i : Nat) (x : α) : Bool := p x && prevOk r x (prevO l i)
def chainB {α : Type} (p : α → Bool) (r : α → α → Bool) : Option α → List α → Bool
  | _, [] => true
  | o, x :: t => p x && prevOk r x o && chainB p r (some x) t
theorem chain_from {α : Type} {p : α → Bool} {r : α → α → Bool} (l : List α) : ∀ (t pre : List α), l = pre ++ t → allFrom (stepA p r l) pre.length t = chainB p r pre.getLast? t
  | [], _, _ => rfl
  | x :: t, pre, h => by
    have h' : l = (pre ++ [x]) ++ t := by rw [h]; simp
    have ih := chain_from (p := p) (r := r) l t (pre ++ [x]) h'
    rw [List.length_append, List.length_singleton, List.getLast?_concat] at ih
    simp only [allFrom, chainB, ih]
    congr 1
    unfold stepA
    congr 1
    congr 1
    rcases List.eq_nil_or_concat pre with rfl | ⟨q, y, rfl⟩
    · rfl
    · simp only [List.concat_eq_append, List.length_append, List.length_singleton, List.getLast?_concat]
      rw [h]
      simp [prevO]
theorem allFrom_chain {α : Type} {p : α → Bool} {r : α → α → Bool} (l : List α) : allFrom (stepA p r l) 0 l = chainB p r none l := chain_from l l [] rfl
theorem chain_iff {α : Type} {p : α → Bool} {r : α → α → Bool} (tr : ∀ a b c, r a b = true → r b c = true → r a c = true) : ∀ {l : List α} {o : Option α},
    chainB p r o l = true ↔ (∀ x ∈ l, p x = true) ∧ l.Pairwise (fun a b => r a b = true) ∧ ∀ y, o = some y → ∀ x ∈ l, r y x = true
  | [], o => by simp [chainB]
  | x :: t, o => by
    simp only [chainB, Bool.and_eq_true, chain_iff tr (l := t), List.mem_cons, forall_eq_or_imp, List.pairwise_cons]
    constructor
    · rintro ⟨⟨h1, h2⟩, h3, h4, h5⟩
      refine ⟨⟨h1, h3⟩, ⟨fun z hz => h5 x rfl z hz, h4⟩, fun y hy => ?_⟩
      subst hy
      exact ⟨h2, fun z hz => tr y x z h2 (h5 x rfl z hz)⟩
    · rintro ⟨⟨h1, h3⟩, ⟨h5, h4⟩, h6⟩
      refine ⟨⟨h1, ?_⟩, h3, h4, fun y hy z hz => ?_⟩
      · cases o with
        | none => rfl
        | some y => exact (h6 y rfl).1
      · cases hy; exact h5 z hz

/-! ### Where a thing is in a list in order -/
/-- l is A, perhaps y that is it, and B. -/
structure Cut {α : Type} (c : α → Int) (l A : List α) (y : Option α) (B : List α) : Prop where
  eq : l = A ++ (y.toList ++ B)
  lo : ∀ x ∈ A, c x < 0
  mid : ∀ x, y = some x → c x = 0
  hi : ∀ x ∈ B, 0 < c x
theorem cut_ex {α : Type} {c : α → Int} : ∀ {l : List α}, l.Pairwise (fun a b => 0 ≤ c a → 0 < c b) → ∃ A y B, Cut c l A y B
  | [], _ => ⟨[], none, [], ⟨rfl, by simp, by simp, by simp⟩⟩
  | x :: l, h => by
    rw [List.pairwise_cons] at h
    rcases Int.lt_trichotomy (c x) 0 with h1 | h1 | h1
    · obtain ⟨A, y, B, ha⟩ := cut_ex h.2
      refine ⟨x :: A, y, B, ⟨by rw [ha.eq]; rfl, fun r hr => ?_, ha.mid, ha.hi⟩⟩
      rcases List.mem_cons.1 hr with rfl | hr
      · exact h1
      · exact ha.lo r hr
    · exact ⟨[], some x, l, ⟨rfl, by simp, fun r hr => by cases hr; exact h1, fun r hr => h.1 r hr (by omega)⟩⟩
    · refine ⟨[], none, x :: l, ⟨rfl, by simp, by simp, fun r hr => ?_⟩⟩
      rcases List.mem_cons.1 hr with rfl | hr
      · exact h1
      · exact h.1 r hr (by omega)
section
variable {α : Type} {c : α → Int} {l A B : List α} {y : Option α}
theorem cut_len (h : Cut c l A y B) : l.length = A.length + (y.toList.length + B.length) := by rw [h.eq]; simp
theorem cut_lt (h : Cut c l A y B) {i : Nat} (hi : i < l.length) (hA : i < A.length) : c l[i] < 0 := by
  have e := h.eq
  subst e
  rw [List.getElem_append_left hA]
  exact h.lo _ (List.getElem_mem hA)
theorem cut_ge (h : Cut c l A y B) {i : Nat} (hi : i < l.length) (hA : A.length ≤ i) : ¬ c l[i] < 0 := by
  have e := h.eq
  subst e
  rw [List.getElem_append_right hA]
  have hm := List.getElem_mem (l := y.toList ++ B) (n := i - A.length) (by simp at hi ⊢; omega)
  rcases List.mem_append.1 hm with hm | hm
  · cases y with
    | none => cases hm
    | some r =>
      simp only [Option.toList_some, List.mem_singleton] at hm
      simp only [Option.toList_some] at hm ⊢
      rw [hm, h.mid r rfl]; omega
  · have := h.hi _ hm
    omega
theorem cut_idx {r : α} (h : Cut c l A (some r) B) : idx l (A.length : Int) = some r := by
  rw [idx_nat, h.eq, List.getElem?_append_right (Nat.le_refl _)]; simp
theorem cut_at (h : Cut c l A y B) (hA : A.length < l.length) : (c l[A.length] == 0) = y.isSome := by
  cases y with
  | some r =>
    have h5 := cut_idx h
    rw [idx_nat, get_some hA] at h5
    injection h5 with h5
    rw [h5, h.mid r rfl]; rfl
  | none =>
    have e := h.eq
    have hm : l[A.length] ∈ B := by
      subst e
      rw [List.getElem_append_right (Nat.le_refl _)]
      exact List.getElem_mem _
    have h6 := h.hi _ hm
    simp only [Option.isSome_none, beq_eq_false_iff_ne]
    omega
theorem cut_end (h : Cut c l A y B) (hA : ¬ A.length < l.length) : y.isSome = false := by
  have hlen := cut_len h
  cases y with
  | some r => simp at hlen; omega
  | none => rfl
theorem cut_sub (h : Cut c l A y B) : (A ++ B).Sublist l := by
  rw [h.eq]
  exact List.Sublist.append (List.Sublist.refl _) (List.sublist_append_right _ _)
theorem cut_filter (h : Cut c l A y B) : l.filter (fun x => !decide (c x = 0)) = A ++ B := by
  rw [h.eq, List.filter_append, List.filter_append]
  have h1 : A.filter (fun x => !decide (c x = 0)) = A := by
    rw [List.filter_eq_self]; intro x hx; have := h.lo x hx; simp; omega
  have h2 : B.filter (fun x => !decide (c x = 0)) = B := by
    rw [List.filter_eq_self]; intro x hx; have := h.hi x hx; simp; omega
  rw [h1, h2]
  cases y with
  | none => rfl
  | some r => simp [h.mid r rfl]
theorem cut_set (h : Cut c l A y B) {r o : α} (hy : y = some r) : l.set A.length o = A ++ o :: B := by
  subst hy; rw [h.eq]; simp
theorem cut_find? (h : Cut c l A y B) : l.find? (fun x => decide (c x = 0)) = y := by
  rw [h.eq, List.find?_append, List.find?_append]
  have h1 : A.find? (fun x => decide (c x = 0)) = none := by
    rw [List.find?_eq_none]; intro x hx; have := h.lo x hx; simp; omega
  have h2 : B.find? (fun x => decide (c x = 0)) = none := by
    rw [List.find?_eq_none]; intro x hx; have := h.hi x hx; simp; omega
  rw [h1, h2]
  cases y with
  | none => rfl
  | some r => simp [h.mid r rfl]
/-- A thing laid in its place. -/
def layS (c : α → Int) (o x : α) (s : Bool × List α) : Bool × List α :=
  let s1 := if !s.1 && decide (c x ≥ 0) then (true, s.2 ++ [o]) else s
  if c x = 0 then s1 else (s1.1, s1.2 ++ [x])
theorem layS_len {o x : α} {s : Bool × List α} : (layS c o x s).2.length ≤ s.2.length + 2 := by
  unfold layS
  simp only
  split <;> split <;> (try simp) <;> omega
theorem lay_len {o : α} : ∀ {l : List α} {s : Bool × List α}, (l.foldl (fun s x => layS c o x s) s).2.length ≤ s.2.length + 2 * l.length
  | [], s => by simp
  | x :: l, s => by
    rw [List.foldl_cons]
    have h1 := lay_len (o := o) (l := l) (s := layS c o x s)
    have h2 := layS_len (c := c) (o := o) (x := x) (s := s)
    rw [List.length_cons]; omega
def layE (o : α) (s : Bool × List α) : List α := if s.1 then s.2 else s.2 ++ [o]
theorem lay_lo {o : α} : ∀ {A : List α} {b : Bool} {acc : List α}, (∀ x ∈ A, c x < 0) → A.foldl (fun s x => layS c o x s) (b, acc) = (b, acc ++ A)
  | [], b, acc, _ => by simp
  | x :: A, b, acc, h => by
    have hx := h x (List.mem_cons_self ..)
    rw [List.foldl_cons]
    have e : layS c o x (b, acc) = (b, acc ++ [x]) := by
      unfold layS
      simp only [decide_eq_false (show ¬ c x ≥ 0 by omega), Bool.and_false, Bool.false_eq_true, if_false, if_neg (show ¬ c x = 0 by omega)]
    rw [e, lay_lo fun z hz => h z (List.mem_cons_of_mem _ hz)]
    simp
theorem lay_on {o : α} : ∀ {B : List α} {acc : List α}, (∀ x ∈ B, 0 < c x) → B.foldl (fun s x => layS c o x s) (true, acc) = (true, acc ++ B)
  | [], acc, _ => by simp
  | x :: B, acc, h => by
    have hx := h x (List.mem_cons_self ..)
    rw [List.foldl_cons]
    have e : layS c o x (true, acc) = (true, acc ++ [x]) := by
      unfold layS
      simp only [Bool.not_true, Bool.false_and, Bool.false_eq_true, if_false, if_neg (show ¬ c x = 0 by omega)]
    rw [e, lay_on fun z hz => h z (List.mem_cons_of_mem _ hz)]
    simp
theorem lay_hi {o : α} {B : List α} {acc : List α} (h : ∀ x ∈ B, 0 < c x) : layE o (B.foldl (fun s x => layS c o x s) (false, acc)) = acc ++ o :: B := by
  cases B with
  | nil => simp [layE]
  | cons x B =>
    have hx := h x (List.mem_cons_self ..)
    rw [List.foldl_cons]
    have e : layS c o x (false, acc) = (true, acc ++ [o] ++ [x]) := by
      unfold layS
      simp only [Bool.not_false, Bool.true_and, decide_eq_true (show c x ≥ 0 by omega), if_true, if_neg (show ¬ c x = 0 by omega)]
    rw [e, lay_on fun z hz => h z (List.mem_cons_of_mem _ hz)]
    simp [layE]
theorem lay_in {o : α} {acc : List α} (h : Cut c l A y B) : layE o (l.foldl (fun s x => layS c o x s) (false, acc)) = acc ++ (A ++ o :: B) := by
  rw [h.eq, List.foldl_append, List.foldl_append, lay_lo h.lo]
  cases y with
  | none => simp only [Option.toList_none, List.foldl_nil]; rw [lay_hi h.hi]; simp
  | some r =>
    have e : layS c o r (false, acc ++ A) = (true, acc ++ A ++ [o]) := by
      unfold layS
      simp only [Bool.not_false, Bool.true_and, decide_eq_true (show c r ≥ 0 by rw [h.mid r rfl]; omega), if_true, if_pos (h.mid r rfl)]
    simp only [Option.toList_some, List.foldl_cons, List.foldl_nil]
    rw [e, lay_on h.hi]
    simp [layE]
theorem lay_out {o : α} {acc : List α} (h : Cut c l A y B) : layE o (l.foldl (fun s x => layS c o x s) (true, acc)) = acc ++ (A ++ B) := by
  rw [h.eq, List.foldl_append, List.foldl_append, lay_lo h.lo]
  cases y with
  | none => simp only [Option.toList_none, List.foldl_nil]; rw [lay_on h.hi]; simp [layE]
  | some r =>
    have e : layS c o r (true, acc ++ A) = (true, acc ++ A) := by
      unfold layS
      simp only [Bool.not_true, Bool.false_and, Bool.false_eq_true, if_false, if_pos (h.mid r rfl)]
    simp only [Option.toList_some, List.foldl_cons, List.foldl_nil]
    rw [e, lay_on h.hi]
    simp [layE]
theorem insL_cut {b : Nat} (h : Cut c l A none B) (o : α) (hl : l.length ≤ 1000) (hb : b ≤ 1000) : insL b l (A.length : Int) [o] = some (A ++ o :: B) := by
  have hlen := cut_len h
  unfold insL
  rw [if_pos ⟨by omega, by simp at hlen; omega⟩, room_ok (Nat.le_trans (Nat.mul_le_mul (show l.length + [o].length ≤ 1001 by simp; omega) hb) (by decide)), h.eq]
  simp
theorem delL_cut {r : α} (h : Cut c l A (some r) B) : delL l (A.length : Int) ((A.length + 1 : Nat) : Int) = some (A ++ B) := by
  have hlen := cut_len h
  unfold delL
  rw [if_pos ⟨by omega, by omega, by simp at hlen; omega⟩, h.eq]
  simp
end
theorem idx_app {α : Type} {A B : List α} {o : α} : idx (A ++ o :: B) (A.length : Int) = some o := by
  rw [idx_nat, List.getElem?_append_right (Nat.le_refl _)]; simp
theorem put_app {α : Type} {A B : List α} {o x : α} : put (A ++ o :: B) (A.length : Int) x = some (A ++ x :: B) := by
  rw [put_ok (by simp)]; simp
/-! ### slices.DeleteFunc -/
theorem bsF_map {α : Type} {f : α → Option Bool} {p : α → Bool} : ∀ {l : List α}, (∀ x ∈ l, f x = some (p x)) → bsF f l = some (l.map p)
  | [], _ => rfl
  | x :: l, h => by
    simp only [bsF, h x (List.mem_cons_self ..), Option.bind_some, bsF_map fun y hy => h y (List.mem_cons_of_mem _ hy), List.map_cons]
theorem keepF_mapP {α : Type} {p : α → Bool} : ∀ {l : List α}, keepF l (l.map p) = l.filter fun x => !p x
  | [] => rfl
  | x :: l => by
    rw [List.map_cons, List.filter_cons]
    cases h : p x with
    | true => simp [keepF_cons, keepF_mapP (l := l)]
    | false => simp [keepF_cons, keepF_mapP (l := l)]
theorem fstOk_find {α : Type} {p : α → Bool} {l : List α} : fstOk (match l.findIdx? p with | some j => (j : Int) | none => -1) (l.map p) = true := by
  cases h : l.findIdx? p with
  | none =>
    have h1 := List.findIdx?_eq_none_iff.1 h
    unfold fstOk
    simp only [decide_true, Bool.true_and, Bool.or_eq_true, List.all_map]
    left
    rw [List.all_eq_true]
    intro x hx
    simp [h1 x hx]
  | some j =>
    obtain ⟨hj, h1, h2⟩ := List.findIdx?_eq_some_iff_getElem.1 h
    unfold fstOk
    simp only [Bool.or_eq_true, Bool.and_eq_true]
    right
    refine ⟨⟨decide_eq_true (by omega), ?_⟩, ?_⟩
    · rw [Int.toNat_natCast, List.getElem?_map, get_some hj]
      exact h1
    · rw [Int.toNat_natCast, ← List.map_take, List.all_map, List.all_eq_true]
      intro x hx
      obtain ⟨k, hk, rfl⟩ := List.mem_take_iff_getElem.1 hx
      have := h2 k (by omega)
      simp only [Function.comp]
      simpa using this
theorem delF_eq {α : Type} {f : α → Option Bool} {p : α → Bool} {l : List α} (h : ∀ x ∈ l, f x = some (p x)) (hl : l.length ≤ 1000000) : delF f (match l.findIdx? p with | some j => (j : Int) | none => -1) l = some (l.filter fun x => !p x) := by
  unfold delF
  rw [bsF_map h]
  simp only [Option.bind_some]
  rw [if_pos ⟨fstOk_find, by omega⟩, keepF_mapP]
theorem set_same {α : Type} {l : List α} {i : Nat} {x : α} (h : l[i]? = some x) : l.set i x = l := by
  obtain ⟨hi, rfl⟩ := List.getElem?_eq_some_iff.1 h
  exact List.set_getElem_self hi
theorem xor_m1 {x : Int} (h : -9223372036854775808 ≤ x ∧ x ≤ 9223372036854775807) : xorV .i64 (-1) x = -1 - x := by
  unfold xorV
  show IntKind.wrap .i64 (((BitVec.ofInt 64 (-1) ^^^ BitVec.ofInt 64 x).toNat : Nat) : Int) = _
  have h1 : BitVec.ofInt 64 (-1) = BitVec.allOnes 64 := by decide
  rw [h1, BitVec.allOnes_xor, BitVec.toNat_not, BitVec.toNat_ofInt, IntKind.wrap_i64]
  have h2 : ((x % ((2 ^ 64 : Nat) : Int)).toNat : Int) = x % 18446744073709551616 := by
    rw [Int.toNat_of_nonneg (by omega)]; rfl
  have h3 : (x % ((2 ^ 64 : Nat) : Int)).toNat < 2 ^ 64 := by omega
  omega
/-! ### The first of its kind; a list changed place by place -/
theorem first_lo {α R : Type} {c : α → Int} {g : Nat → α → Option R} {fin : Unit → Option R} {r : List α} : ∀ (A : List α) (i : Nat), (∀ x ∈ A, c x ≠ 0) → runL (fun i x (_ : Unit) => if c x = 0 then .inl (g i x) else .inr ()) fin (A ++ r) i () = runL (fun i x (_ : Unit) => if c x = 0 then .inl (g i x) else .inr ()) fin r (i + A.length) ()
  | [], i, _ => rfl
  | x :: A, i, h => by
    have hx := h x (List.mem_cons_self ..)
    simp only [List.cons_append, runL, if_neg hx]
    rw [first_lo A (i + 1) fun y hy => h y (List.mem_cons_of_mem _ hy)]
    rw [List.length_cons, show i + 1 + A.length = i + (A.length + 1) from by omega]
theorem first_cut {α R : Type} {c : α → Int} {g : Nat → α → Option R} {fin : Unit → Option R} {l A B : List α} {y : Option α} (h : Cut c l A y B) : runL (fun i x (_ : Unit) => if c x = 0 then .inl (g i x) else .inr ()) fin l 0 () = y.elim (fin ()) (g A.length) := by
  rw [h.eq, first_lo A 0 fun x hx => by have := h.lo x hx; omega]
  cases y with
  | some s => simp only [Option.toList_some, List.singleton_append, runL, if_pos (h.mid s rfl), Nat.zero_add, Option.elim]
  | none =>
    have := first_lo (c := c) (g := g) (fin := fin) (r := []) B (0 + A.length) fun x hx => by have := h.hi x hx; omega
    rw [List.append_nil] at this
    simp only [Option.toList_none, List.nil_append]
    rw [this]; rfl
def upTo {α : Type} (f : α → α) (l : List α) (i : Nat) : List α := (l.take i).map f ++ l.drop i
theorem upTo_get {α : Type} {f : α → α} {l : List α} {i : Nat} (hi : i < l.length) : (upTo f l i)[i]? = some l[i] := by
  unfold upTo
  rw [List.getElem?_append_right (by simp; omega)]
  simp only [List.length_map, List.length_take, Nat.min_eq_left (Nat.le_of_lt hi), Nat.sub_self, List.getElem?_drop, Nat.add_zero]
  exact get_some hi
theorem upTo_set {α : Type} {f : α → α} {l : List α} {i : Nat} (hi : i < l.length) : (upTo f l i).set i (f l[i]) = upTo f l (i + 1) := by
  unfold upTo
  rw [List.set_append_right _ _ (by simp; omega)]
  simp only [List.length_map, List.length_take, Nat.min_eq_left (Nat.le_of_lt hi), Nat.sub_self]
  rw [drop_cons hi, List.set_cons_zero, List.take_succ_eq_append_getElem hi, List.map_append]
  simp
theorem upTo_zero {α : Type} {f : α → α} {l : List α} : upTo f l 0 = l := by simp [upTo]
theorem upTo_all {α : Type} {f : α → α} {l : List α} : upTo f l l.length = l.map f := by simp [upTo]
theorem loop_to {T σ R : Type} {F : (T → Option R) → T → Option R} (v : Option R) (len : Nat) (mk : Nat → σ → T) (I : Nat → σ → Prop)
    (h : ∀ r i s, i < len → I i s → F r (mk i s) = v ∨ ∃ s', F r (mk i s) = r (mk (i + 1) s') ∧ I (i + 1) s') (hE : ∀ r s, I len s → F r (mk len s) = v) : ∀ m i s, i ≤ len → len - i < m → I i s → loopF F m (mk i s) = v := by
  intro m
  induction m with
  | zero => intro i s _ h; omega
  | succ m ih =>
    intro i s hi hm hs
    show F (loopF F m) (mk i s) = v
    by_cases hlt : i < len
    · rcases h (loopF F m) i s hlt hs with h1 | ⟨s', h1, h2⟩
      · exact h1
      · rw [h1]; exact ih (i + 1) s' (by omega) (by omega) h2
    · obtain rfl : i = len := by omega
      exact hE _ s hs
theorem loop_ex {T σ R : Type} {F : (T → Option R) → T → Option R} (P : Option R → Prop) (len : Nat) (mk : Nat → σ → T) (I : Nat → σ → Prop)
    (h : ∀ r i s, i < len → I i s → ∃ s', F r (mk i s) = r (mk (i + 1) s') ∧ I (i + 1) s') (hE : ∀ r s, I len s → P (F r (mk len s))) : ∀ m i s, i ≤ len → len - i < m → I i s → P (loopF F m (mk i s)) := by
  intro m
  induction m with
  | zero => intro i s _ h; omega
  | succ m ih =>
    intro i s hi hm hs
    by_cases hlt : i < len
    · obtain ⟨s', h1, h2⟩ := h (loopF F m) i s hlt hs
      show P (F (loopF F m) (mk i s))
      rw [h1]; exact ih (i + 1) s' (by omega) (by omega) h2
    · obtain rfl : i = len := by omega
      exact hE _ s hs
end Go.Bur
