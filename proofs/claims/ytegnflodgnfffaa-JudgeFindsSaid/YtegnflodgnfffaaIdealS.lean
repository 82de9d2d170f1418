/- Layer 15: sizes, sameness; the plain law IdealSame. -/
import Derived.Test.YtegnflodgnfffaaRowP
namespace Go.Proofs.Ytegnflodgnfffaa
open Go.Bur
set_option linter.unusedSimpArgs false
set_option linter.unusedVariables false
set_option maxRecDepth 100000

def bigRow (r : Row) : Bool := decide ((r.note.size : Int) > 100)
def overP (s : Schema) (l : List Row) : Bool := (decide (20 < s.tables.length) || decide (100 < l.length)) || l.any bigRow
theorem overP_len {s : Schema} {l : List Row} (h : overP s l = false) : s.tables.length ≤ 20 ∧ l.length ≤ 100 := by
  unfold overP at h
  simp only [Bool.or_eq_false_iff, decide_eq_false_iff_not] at h
  omega
def overS (x : Serial) : Bool := ((overP x.schema x.rows || overP x.schema x.begun) || decide (20 < x.marks.length)) || x.marks.any (overP x.schema)
structure SmallS (x : Serial) : Prop where
  tables : x.schema.tables.length ≤ 1000
  rows : x.rows.length ≤ 1000
  begun : x.begun.length ≤ 1000
  marks : x.marks.length ≤ 1000
  each : ∀ l ∈ x.marks, l.length ≤ 1000
theorem overS_small {x : Serial} (h : overS x = false) : SmallS x := by
  unfold overS at h
  simp only [Bool.or_eq_false_iff, decide_eq_false_iff_not] at h
  obtain ⟨⟨⟨h1, h2⟩, h3⟩, h4⟩ := h
  have a := overP_len h1
  have b := overP_len h2
  refine ⟨by omega, by omega, by omega, by omega, fun l hl => ?_⟩
  have := List.any_eq_false.1 h4 l hl
  have := overP_len (by simpa using this)
  omega
theorem bounds_eqb (x : Bounds) : Bounds.eqb x x = true := by simp [Bounds.eqb]
theorem sameB_eq (n : Nat) (hn : 1003 ≤ n) (a b : List Bounds) (ha : a.length ≤ 1000) : slices_Equal_Bounds n a b = some (sameL Bounds.eqb a b) := by
  unfold slices_Equal_Bounds
  rw [ineN]
  by_cases h : a.length = b.length
  · rw [decide_eq_true h]
    show slices_Equal_Bounds_l1 n n (a, b, (a.length : Int), ((0 : Nat) : Int), ()) = _
    unfold slices_Equal_Bounds_l1
    refine (run_loop a (fun (i : Nat) (_ : Unit) => (a, b, (a.length : Int), (i : Int), ())) (fun i x _ => if atE Bounds.eqb b i x then .inr () else .inl (some false)) (fun _ => some true) (fun r i q x hx hi => ?_) (fun r q => ?_) n 0 () (by omega) (by omega)).trans ?_
    · have hb := get_some (show i < b.length by omega)
      simp only [lt_dec hi, cond_true, idx_nat, hx, hb, Option.bind_some, wrap_succ (show i < 4611686018427387904 by omega), atE]
      cases Bounds.eqb x b[i] <;> rfl
    · simp only [ge_dec (Nat.lt_irrefl _), cond_false]
    · rw [List.drop_zero, runL_allFrom, sameL_from b a 0 (by omega), List.drop_zero]
      cases sameL Bounds.eqb a b <;> rfl
  · rw [decide_eq_false h, sameL_len h]; rfl
def serSame (a b : Serial) : Bool := (((sameL Bounds.eqb a.schema.tables b.schema.tables && rowsSame a.rows b.rows) && rowsSame a.begun b.begun) && sameL rowsSame a.marks b.marks) && (a.over == b.over)
theorem serSame_refl (a : Serial) : serSame a a = true := by
  unfold serSame
  rw [sameL_refl bounds_eqb, rowsSame_refl, rowsSame_refl, sameL_refl rowsSame_refl]
  simp
def ansSame (a b : Answer) : Bool := (decide (a.err = b.err) && decide (a.n = b.n)) && rowsSame a.rows b.rows
theorem ansSame_refl (a : Answer) : ansSame a a = true := by
  unfold ansSame
  rw [rowsSame_refl]
  simp
theorem sameAns_eq (n : Nat) (hn : 1003 ≤ n) (a b : Answer) (ha : a.rows.length ≤ 1000) : ideal_SameAnswer n a b = some (ansSame a b) := by
  unfold ideal_SameAnswer ansSame
  simp only [jn, ibeq, same_eq n hn _ _ ha, Option.bind_some]
  cases decide (a.err = b.err) <;> cases decide (a.n = b.n) <;> rfl
theorem rsameAns_eq (n : Nat) (hn : 1003 ≤ n) (a b : Answer) (ha : a.rows.length ≤ 1000) : ref15_SameAnswer n a b = some (ansSame a b) := by
  unfold ref15_SameAnswer ansSame
  simp only [jn, ibeq, rsame_eq n hn _ _ ha, Option.bind_some]
  cases decide (a.err = b.err) <;> cases decide (a.n = b.n) <;> rfl
end Go.Proofs.Ytegnflodgnfffaa
