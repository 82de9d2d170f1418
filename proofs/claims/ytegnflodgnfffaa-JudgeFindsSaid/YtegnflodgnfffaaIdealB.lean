/- Layer 15: the plain law IdealBack. -/
import Derived.Test.YtegnflodgnfffaaIdealK
namespace Go.Proofs.Ytegnflodgnfffaa
open Go.Bur
set_option linter.unusedSimpArgs false
set_option linter.unusedVariables false
set_option maxRecDepth 100000

def markQ : Request := ⟨9, ⟨0, 0⟩, ⟨0, 0⟩, 0, ByteArray.empty, 0⟩
def backQ (n : Int) : Request := ⟨10, ⟨0, 0⟩, ⟨0, 0⟩, 0, ByteArray.empty, n⟩
def abortQ : Request := ⟨12, ⟨0, 0⟩, ⟨0, 0⟩, 0, ByteArray.empty, 0⟩
theorem mark_ok {s : Schema} (h : right s = true) : reqOk s markQ = true := by
  have h0 := inTab0 h
  unfold reqOk moreOk bareP markQ
  simp [Request.eqb, req0, key0] at h0 ⊢
  exact h0
theorem back_ok {s : Schema} (h : right s = true) {n : Int} (hn : 1 ≤ n) : reqOk s (backQ n) = true := by
  have h0 := inTab0 h
  unfold reqOk moreOk bareP backQ
  simp [Request.eqb, req0, key0] at h0 ⊢
  exact ⟨h0, hn⟩
theorem abort_ok {s : Schema} (h : right s = true) : reqOk s abortQ = true := by
  have h0 := inTab0 h
  unfold reqOk moreOk bareP abortQ
  simp [Request.eqb, req0, key0] at h0 ⊢
  exact h0
theorem mark_step {x : Serial} (h : serOk x = true) (ho : x.over = false) : stepAll x markQ = if x.marks.length = 8 then (x, ansE 6) else (⟨x.schema, x.rows, x.begun, x.marks ++ [x.rows], x.over⟩, ⟨0, [], (x.marks.length : Int) + 1⟩) := by
  unfold stepAll stepP
  rw [h, ho, mark_ok (serOk_facts h).1]
  simp [markQ, ho]
theorem back_step {x : Serial} (h : serOk x = true) (ho : x.over = false) {k : Nat} {m : List Row} (hm : x.marks[k]? = some m) : stepAll x (backQ ((k : Int) + 1)) = (⟨x.schema, m, x.begun, x.marks.take (k + 1), x.over⟩, ansE 0) := by
  have hk := (List.getElem?_eq_some_iff.1 hm).1
  unfold stepAll stepP
  rw [h, ho, back_ok (serOk_facts h).1 (by omega)]
  have e1 : ¬ ((k : Int) + 1 > (x.marks.length : Int)) := by omega
  have e2 : ((k : Int) + 1 - 1) = (k : Int) := by omega
  have e3 : ((k : Int) + 1).toNat = k + 1 := by omega
  simp only [backQ, if_true, Bool.false_eq_true, if_false, show ¬ ((10 : Int) = 9) from by decide, if_neg e1, e2, idx_nat, hm, e3, ho]
theorem abort_step {x : Serial} (h : serOk x = true) (ho : x.over = false) : stepAll x abortQ = (⟨x.schema, x.begun, x.begun, [], true⟩, ansE 0) := by
  unfold stepAll stepP
  rw [h, ho, abort_ok (serOk_facts h).1]
  simp [abortQ]
/-- What stands, whatever is asked for but the end. -/
theorem stays {y : Serial} {q : Request} {k : Nat} {m : List Row} (h : serOk y = true) (ho : y.over = false) (hm : y.marks[k]? = some m) (hq : q.kind ≤ 10) (hb : q.kind = 10 → (k : Int) + 1 ≤ q.n) : (stepAll y q).1.over = false ∧ (stepAll y q).1.marks[k]? = some m := by
  have hk := (List.getElem?_eq_some_iff.1 hm).1
  unfold stepAll
  rw [h, ho]
  simp only [if_true, Bool.false_eq_true, if_false]
  split
  · unfold stepP
    split
    · split
      · exact ⟨ho, hm⟩
      · exact ⟨ho, by show (y.marks ++ [y.rows])[k]? = _; rw [List.getElem?_append_left hk]; exact hm⟩
    · split
      · rename_i e10
        have := hb e10
        split
        · exact ⟨ho, hm⟩
        · split
          · refine ⟨ho, ?_⟩
            show (y.marks.take q.n.toNat)[k]? = _
            rw [List.getElem?_take_of_lt (by omega)]; exact hm
          · exact ⟨ho, hm⟩
      · split
        · omega
        · split
          · omega
          · exact ⟨ho, hm⟩
  · exact ⟨ho, hm⟩
theorem ser_sch {x : Serial} (h : okT tab 9 (.st 9) x) : SchIn x.schema := fun b hb => ⟨(h.1.1 b hb).1, (h.1.1 b hb).2.1⟩
end Go.Proofs.Ytegnflodgnfffaa
