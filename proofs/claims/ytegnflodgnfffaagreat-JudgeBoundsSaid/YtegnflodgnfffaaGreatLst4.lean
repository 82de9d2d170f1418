/- Plain lemmas on lists, numbers and loops, for laws. -/
import Derived.Test.YtegnflodgnfffaaGreatHn
namespace Go.Bur
open Go.RowKit
set_option linter.unusedVariables false
set_option linter.unusedSimpArgs false

theorem idx_nat {α : Type} (l : List α) (i : Nat) : idx l (i : Int) = l[i]? := by
  unfold idx
  rw [if_pos (Int.natCast_nonneg i), Int.toNat_natCast]
theorem wrap_in {x : Int} (h : -9223372036854775808 ≤ x ∧ x ≤ 9223372036854775807) : IntKind.wrap .i64 x = x := by rw [IntKind.wrap_i64]; omega
theorem wrap_succ {i : Nat} (h : i < 4611686018427387904) : IntKind.wrap .i64 ((i : Int) + 1) = ((i + 1 : Nat) : Int) := by rw [IntKind.wrap_i64]; omega
theorem wrap_pred {i : Nat} (h : i < 4611686018427387904) : IntKind.wrap .i64 (((i + 1 : Nat) : Int) - 1) = (i : Int) := by rw [IntKind.wrap_i64]; omega
theorem lt_dec {i n : Nat} (h : i < n) : decide ((i : Int) < (n : Int)) = true := decide_eq_true (by omega)
theorem ge_dec {i n : Nat} (h : ¬ i < n) : decide ((i : Int) < (n : Int)) = false := decide_eq_false (by omega)
theorem room_ok {k b : Nat} (h : k * b ≤ 140737488355328) : room k b = true := Nat.ble_eq_true_of_le h
theorem app_ok {α : Type} {b : Nat} {l m : List α} (h : (l.length + m.length) * b ≤ 140737488355328) : app b l m = some (l ++ m) := by
  unfold app; rw [room_ok h]
theorem app_lt {α : Type} {b : Nat} {l m : List α} (h : l.length + m.length ≤ 1000000) (hb : b ≤ 1000) : app b l m = some (l ++ m) :=
  app_ok (Nat.le_trans (Nat.mul_le_mul h hb) (by decide))
theorem drop_cons {α : Type} {l : List α} {i : Nat} (h : i < l.length) : l.drop i = l[i] :: l.drop (i + 1) := List.drop_eq_getElem_cons h
theorem get_some {α : Type} {l : List α} {i : Nat} (h : i < l.length) : l[i]? = some l[i] := List.getElem?_eq_getElem h
theorem drop_nil {α : Type} {l : List α} {i : Nat} (h : ¬ i < l.length) : l.drop i = [] := List.drop_eq_nil_of_le (by omega)
/-- A loop over a list, as a walk over what is left of it. -/
def runL {α σ R : Type} (step : Nat → α → σ → Option R ⊕ σ) (fin : σ → Option R) : List α → Nat → σ → Option R
  | [], _, s => fin s
  | x :: t, i, s => match step i x s with
    | .inl v => v
    | .inr s' => runL step fin t (i + 1) s'
theorem run_loop {T α σ R : Type} {F : (T → Option R) → T → Option R} (l : List α) (mk : Nat → σ → T) (step : Nat → α → σ → Option R ⊕ σ) (fin : σ → Option R)
    (hF : ∀ r i s x, l[i]? = some x → i < l.length → F r (mk i s) = match step i x s with | .inl v => v | .inr s' => r (mk (i + 1) s'))
    (hE : ∀ r s, F r (mk l.length s) = fin s) : ∀ m i s, i ≤ l.length → l.length - i < m → loopF F m (mk i s) = runL step fin (l.drop i) i s := by
  intro m
  induction m with
  | zero => intro i s _ h; omega
  | succ m ih =>
    intro i s hi hm
    show F (loopF F m) (mk i s) = _
    by_cases h : i < l.length
    · rw [hF _ i s _ (get_some h) h, drop_cons h]
      simp only [runL]
      cases step i l[i] s with
      | inl v => rfl
      | inr s' => exact ih (i + 1) s' (by omega) (by omega)
    · obtain rfl : i = l.length := by omega
      rw [hE, drop_nil h]; rfl
theorem run_loopI {T α σ R : Type} {F : (T → Option R) → T → Option R} (l : List α) (mk : Nat → σ → T) (step : Nat → α → σ → Option R ⊕ σ) (fin : σ → Option R) (I : Nat → σ → Prop)
    (hI : ∀ i s x s', l[i]? = some x → I i s → step i x s = .inr s' → I (i + 1) s')
    (hF : ∀ r i s x, l[i]? = some x → i < l.length → I i s → F r (mk i s) = match step i x s with | .inl v => v | .inr s' => r (mk (i + 1) s'))
    (hE : ∀ r s, I l.length s → F r (mk l.length s) = fin s) : ∀ m i s, i ≤ l.length → l.length - i < m → I i s → loopF F m (mk i s) = runL step fin (l.drop i) i s := by
  intro m
  induction m with
  | zero => intro i s _ h; omega
  | succ m ih =>
    intro i s hi hm hs
    show F (loopF F m) (mk i s) = _
    by_cases h : i < l.length
    · rw [hF _ i s _ (get_some h) h hs, drop_cons h]
      simp only [runL]
      cases hst : step i l[i] s with
      | inl v => rfl
      | inr s' => exact ih (i + 1) s' (by omega) (by omega) (hI i s _ s' (get_some h) hs hst)
    · obtain rfl : i = l.length := by omega
      rw [hE _ _ hs, drop_nil h]; rfl
end Go.Bur

/- More plain lemmas on loops over lists. -/
namespace Go.Bur
open Go.RowKit
set_option linter.unusedVariables false
set_option linter.unusedSimpArgs false

theorem runL_any {α R : Type} {p : α → Bool} {v : Option R} {fin : Unit → Option R} : ∀ (l : List α) (i : Nat), runL (fun _ x (_ : Unit) => if p x then .inl v else .inr ()) fin l i () = if l.any p then v else fin ()
  | [], _ => rfl
  | x :: t, i => by
    by_cases hp : p x = true
    · simp [runL, hp]
    · have hp : p x = false := by simpa using hp
      simp only [runL, hp, List.any_cons, Bool.false_or]; exact runL_any t (i + 1)
theorem runL_find0 {α R : Type} {p : α → Bool} {f : Nat → Option R} {fin : Unit → Option R} : ∀ (l : List α) (i : Nat), runL (fun i x (_ : Unit) => if p x then .inl (f i) else .inr ()) fin l i () = match l.findIdx? p with | some j => f (i + j) | none => fin ()
  | [], _ => rfl
  | x :: t, i => by
    rw [List.findIdx?_cons]
    by_cases hp : p x = true
    · simp [runL, hp]
    · have hp : p x = false := by simpa using hp
      simp only [runL, hp, Bool.false_eq_true, if_false]
      rw [runL_find0 t (i + 1)]
      cases t.findIdx? p with
      | none => rfl
      | some j => simp only [Option.map_some]; congr 1; omega
/-- All from a place on, with their places. -/
def allFrom {α : Type} (p : Nat → α → Bool) : Nat → List α → Bool
  | _, [] => true
  | i, x :: t => p i x && allFrom p (i + 1) t
theorem runL_allFrom {α R : Type} {p : Nat → α → Bool} {v : Option R} {fin : Unit → Option R} : ∀ (l : List α) (i : Nat), runL (fun i x (_ : Unit) => if p i x then .inr () else .inl v) fin l i () = if allFrom p i l then fin () else v
  | [], _ => rfl
  | x :: t, i => by
    by_cases hp : p i x = true
    · simp only [runL, allFrom, hp, if_true, Bool.true_and]; exact runL_allFrom t (i + 1)
    · have hp : p i x = false := by simpa using hp
      simp [runL, allFrom, hp]
end Go.Bur
