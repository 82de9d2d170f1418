/- More plain lemmas on loops over lists. -/
import Derived.Test.YtfidbgcdjmhjnaaLst3
namespace Go.Bur
open Go.RowKit
set_option linter.unusedVariables false
set_option linter.unusedSimpArgs false

theorem runL_skip {α σ R : Type} {fin : σ → Option R} {s : σ} : ∀ (l : List α) (i : Nat), runL (fun _ _ s => .inr s) fin l i s = fin s
  | [], _ => rfl
  | _ :: t, i => runL_skip t (i + 1)
theorem runL_find0 {α R : Type} {p : α → Bool} {f : Nat → Option R} {fin : Unit → Option R} : ∀ (l : List α) (i : Nat), runL (fun i x (_ : Unit) => if p x then .inl (f i) else .inr ()) fin l i () = match l.findIdx? p with | some j => f (i + j) | none => fin ()
  | [], _ => rfl
  | x :: t, i => by
    rw [List.findIdx?_cons]
    by_cases hp : p x = true
    · simp [runL, hp]
    · have hp : p x = false := by simpa using hp
      simp only [runL, hp, Bool.false_eq_true, if_false]
      rw [runL_find0 t (i + 1)]
      cases t.findIdx? p with
      | none => rfl
      | some j => simp only [Option.map_some]; congr 1; omega
/-- All from a place on, with their places. -/
def allFrom {α : Type} (p : Nat → α → Bool) : Nat → List α → Bool
  | _, [] => true
  | i, x :: t => p i x && allFrom p (i + 1) t
theorem runL_allFrom {α R : Type} {p : Nat → α → Bool} {v : Option R} {fin : Unit → Option R} : ∀ (l : List α) (i : Nat), runL (fun i x (_ : Unit) => if p i x then .inr () else .inl v) fin l i () = if allFrom p i l then fin () else v
  | [], _ => rfl
  | x :: t, i => by
    by_cases hp : p i x = true
    · simp only [runL, allFrom, hp, if_true, Bool.true_and]; exact runL_allFrom t (i + 1)
    · have hp : p i x = false := by simpa using hp
      simp [runL, allFrom, hp]
theorem ibeq (a b : Int) : (a == b) = decide (a = b) := by
  by_cases h : a = b
  · subst h; simp
  · rw [decide_eq_false h]; simp [h]
theorem ibne (a b : Int) : (a != b) = !decide (a = b) := by rw [bne, ibeq]
theorem ieqN {k m : Nat} : (((k : Int)) == (m : Int)) = decide (k = m) := by
  rw [ibeq]
  by_cases h : k = m
  · subst h; simp
  · rw [decide_eq_false h, decide_eq_false (by omega)]
theorem ineN {k m : Nat} : (((k : Int)) != (m : Int)) = !decide (k = m) := by rw [bne, ieqN]
theorem idx_some {α : Type} {l : List α} {i : Int} {x : α} (h : idx l i = some x) : 0 ≤ i ∧ i < l.length ∧ x ∈ l := by
  unfold idx at h
  split at h
  · rename_i h0
    obtain ⟨h1, h2⟩ := List.getElem?_eq_some_iff.1 h
    exact ⟨h0, by omega, h2 ▸ List.getElem_mem h1⟩
  · cases h
theorem idx_in {α : Type} {l : List α} {i : Int} (h : 0 ≤ i ∧ i < l.length) : ∃ x, idx l i = some x := by
  obtain ⟨k, rfl⟩ := Int.eq_ofNat_of_zero_le h.1
  exact ⟨_, (idx_nat l k).trans (get_some (by omega))⟩
/-- A search by halves. -/
theorem bsearch {T R : Type} {F : (T → Option R) → T → Option R} (mk : Nat → Nat → T) (a len : Nat) (fin : Option R)
    (hlo : ∀ r i j, i < j → j ≤ len → (i + j) / 2 < a → F r (mk i j) = r (mk ((i + j) / 2 + 1) j))
    (hhi : ∀ r i j, i < j → j ≤ len → a ≤ (i + j) / 2 → F r (mk i j) = r (mk i ((i + j) / 2)))
    (hE : ∀ r, F r (mk a a) = fin) : ∀ m i j, i ≤ a → a ≤ j → j ≤ len → j - i < m → loopF F m (mk i j) = fin
  | 0, i, j, _, _, _, h => by omega
  | m + 1, i, j, h1, h2, h3, h => by
    show F (loopF F m) (mk i j) = fin
    by_cases hij : i < j
    · by_cases hA : (i + j) / 2 < a
      · rw [hlo _ i j hij h3 hA]
        exact bsearch mk a len fin hlo hhi hE m _ j (by omega) h2 h3 (by omega)
      · rw [hhi _ i j hij h3 (by omega)]
        exact bsearch mk a len fin hlo hhi hE m i _ h1 (by omega) (by omega) (by omega)
    · obtain rfl : i = a := by omega
      obtain rfl : j = i := by omega
      exact hE _
end Go.Bur
