/- Layer 15: the plain law IdealDoes. -/
import Derived.Test.YtegnflodgnfffaaIdealP
namespace Go.Proofs.Ytegnflodgnfffaa
open Go.Bur
set_option linter.unusedSimpArgs false
set_option linter.unusedVariables false
set_option maxRecDepth 100000

theorem putK_len (l : List Row) (r : Row) : (putK l r).length ≤ l.length + 1 := by
  unfold putK
  rw [insP_len]
  exact Nat.add_le_add_right (List.length_filter_le _ _) 1
theorem neg_wrap {v : Int} (h : i64 v) (h0 : 0 ≤ v) : IntKind.wrap .i64 (0 - v) = -v ∧ i64 (-v) := by
  obtain ⟨h1, h2⟩ := h
  refine ⟨?_, ⟨by omega, by omega⟩⟩
  rw [wrap_in (by omega)]; omega
/-- What the program's Do answers. -/
def doAll (s : Schema) (l : List Row) (q : Request) : Answer × List Row :=
  if right s then (if listOk s l then (if reqOk s q && decide (q.kind ≤ 8) then doP s l q else (ansE 250, l)) else (ansE 151, l)) else (ansE 150, l)
theorem ofP_len (t : Int) (l : List Row) : (ofP t l).length ≤ l.length := List.length_filter_le _ _
def LenOk (l : List Row) (y : Answer × List Row) : Prop := y.2.length ≤ l.length + 2 ∧ y.1.rows.length ≤ l.length + 1
theorem doP_len (s : Schema) (l : List Row) (q : Request) : LenOk l (doP s l q) := by
  have h0 : ∀ e, LenOk l (ansE e, l) := fun e => ⟨by simp, by simp [ansE]⟩
  have hp : ∀ r, LenOk l (ansE 0, putK l r) := fun r => ⟨by have := putK_len l r; show (putK l r).length ≤ _; omega, by simp [ansE]⟩
  have hp2 : ∀ r t, LenOk l (ansE 0, putK (putK l r) t) := fun r t => ⟨by have := putK_len l r; have := putK_len (putK l r) t; show (putK (putK l r) t).length ≤ _; omega, by simp [ansE]⟩
  have hon : ∀ k f, (∀ r, LenOk l (f r)) → LenOk l (onRow l k f) := fun k f hf => by
    unfold onRow
    cases getK l k with
    | none => exact h0 4
    | some r => exact hf r
  unfold doP
  split
  · exact hon _ _ fun r => ⟨by simp, by simp⟩
  split
  · exact ⟨by simp, by have := ofP_len q.key.table l; show (ofP q.key.table l).length ≤ _; omega⟩
  split
  · split
    · split
      · exact h0 5
      · split
        · exact h0 6
        · exact hp _
    · exact h0 152
  split
  · exact hon _ _ fun r => ⟨by have : (delK l q.key).length ≤ l.length := List.length_filter_le _ _; show (delK l q.key).length ≤ _; omega, by simp [ansE]⟩
  split
  · exact hon _ _ fun r => hp _
  split
  · split
    · exact hon _ _ fun r => hp _
    · exact h0 152
  split
  · refine hon _ _ fun r => ?_
    split
    · exact hp _
    · exact h0 152
  · refine hon _ _ fun r => hon _ _ fun t => ?_
    split
    · exact hp2 _ _
    · exact h0 152
theorem rows_i64 {l : List Row} (h : okT tab 9 (.sl (.st 3)) l) : ∀ r ∈ l, i64 r.val := fun r hr => (h.1 r hr).2.2.1
theorem req_i64 {q : Request} (h : okT tab 9 (.st 4) q) : i64 q.val := h.2.2.2.2.2.1
end Go.Proofs.Ytegnflodgnfffaa
