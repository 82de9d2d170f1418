/- Plain lemmas on lists, numbers and loops, for laws. -/
import Derived.Test.YtlfjoaipbpendaaGreatDoorHn
namespace Go.Bur
open Go.RowKit
set_option linter.unusedVariables false
set_option linter.unusedSimpArgs false

theorem idx_nat {α : Type} (l : List α) (i : Nat) : idx l (i : Int) = l[i]? := by
  unfold idx
  rw [if_pos (Int.natCast_nonneg i), Int.toNat_natCast]
theorem wrap_succ {i : Nat} (h : i < 4611686018427387904) : IntKind.wrap .i64 ((i : Int) + 1) = ((i + 1 : Nat) : Int) := by rw [IntKind.wrap_i64]; omega
theorem lt_dec {i n : Nat} (h : i < n) : decide ((i : Int) < (n : Int)) = true := decide_eq_true (by omega)
theorem ge_dec {i n : Nat} (h : ¬ i < n) : decide ((i : Int) < (n : Int)) = false := decide_eq_false (by omega)
theorem drop_cons {α : Type} {l : List α} {i : Nat} (h : i < l.length) : l.drop i = l[i] :: l.drop (i + 1) := List.drop_eq_getElem_cons h
theorem get_some {α : Type} {l : List α} {i : Nat} (h : i < l.length) : l[i]? = some l[i] := List.getElem?_eq_getElem h
theorem drop_nil {α : Type} {l : List α} {i : Nat} (h : ¬ i < l.length) : l.drop i = [] := List.drop_eq_nil_of_le (by omega)
theorem bindE {α β : Type} {o : Option α} {x : α} {k : α → Option β} (h : o = some x) : o.bind k = k x := by rw [h]; rfl
/-- A loop over a list, as a walk over what is left of it. -/
def runL {α σ R : Type} (step : Nat → α → σ → Option R ⊕ σ) (fin : σ → Option R) : List α → Nat → σ → Option R
  | [], _, s => fin s
  | x :: t, i, s => match step i x s with
    | .inl v => v
    | .inr s' => runL step fin t (i + 1) s'
theorem run_loop {T α σ R : Type} {F : (T → Option R) → T → Option R} (l : List α) (mk : Nat → σ → T) (step : Nat → α → σ → Option R ⊕ σ) (fin : σ → Option R)
    (hF : ∀ r i s x, l[i]? = some x → i < l.length → F r (mk i s) = match step i x s with | .inl v => v | .inr s' => r (mk (i + 1) s'))
    (hE : ∀ r s, F r (mk l.length s) = fin s) : ∀ m i s, i ≤ l.length → l.length - i < m → loopF F m (mk i s) = runL step fin (l.drop i) i s := by
  intro m
  induction m with
  | zero => intro i s _ h; omega
  | succ m ih =>
    intro i s hi hm
    show F (loopF F m) (mk i s) = _
    by_cases h : i < l.length
    · rw [hF _ i s _ (get_some h) h, drop_cons h]
      simp only [runL]
      cases step i l[i] s with
      | inl v => rfl
      | inr s' => exact ih (i + 1) s' (by omega) (by omega)
    · obtain rfl : i = l.length := by omega
      rw [hE, drop_nil h]; rfl
end Go.Bur

/- More plain lemmas on loops over lists. -/
namespace Go.Bur
open Go.RowKit
set_option linter.unusedVariables false
set_option linter.unusedSimpArgs false

theorem runL_any {α R : Type} {p : α → Bool} {v : Option R} {fin : Unit → Option R} : ∀ (l : List α) (i : Nat), runL (fun _ x (_ : Unit) => if p x then .inl v else .inr ()) fin l i () = if l.any p then v else fin ()
  | [], _ => rfl
  | x :: t, i => by
    by_cases hp : p x = true
    · simp [runL, hp]
    · have hp : p x = false := by simpa using hp
      simp only [runL, hp, List.any_cons, Bool.false_or]; exact runL_any t (i + 1)
theorem runL_find0 {α R : Type} {p : α → Bool} {f : Nat → Option R} {fin : Unit → Option R} : ∀ (l : List α) (i : Nat), runL (fun i x (_ : Unit) => if p x then .inl (f i) else .inr ()) fin l i () = match l.findIdx? p with | some j => f (i + j) | none => fin ()
  | [], _ => rfl
  | x :: t, i => by
    rw [List.findIdx?_cons]
    by_cases hp : p x = true
    · simp [runL, hp]
    · have hp : p x = false := by simpa using hp
      simp only [runL, hp, Bool.false_eq_true, if_false]
      rw [runL_find0 t (i + 1)]
      cases t.findIdx? p with
      | none => rfl
      | some j => simp only [Option.map_some]; congr 1; omega
theorem ibeq (a b : Int) : (a == b) = decide (a = b) := by
  by_cases h : a = b
  · subst h; simp
  · rw [decide_eq_false h]; simp [h]
end Go.Bur
