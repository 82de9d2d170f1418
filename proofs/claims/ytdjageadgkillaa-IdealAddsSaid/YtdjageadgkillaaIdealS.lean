/- Layer 15: sizes, sameness; the plain law IdealSame. -/
import Derived.Test.YtdjageadgkillaaRowP
namespace Go.Proofs.Ytdjageadgkillaa
open Go.Bur
set_option linter.unusedSimpArgs false
set_option linter.unusedVariables false
set_option maxRecDepth 100000

theorem wakes : law15_wakes 2000 = some true := by kernel_rfl
def bigRow (r : Row) : Bool := decide ((r.note.size : Int) > 100)
def overP (s : Schema) (l : List Row) : Bool := (decide (20 < s.tables.length) || decide (100 < l.length)) || l.any bigRow
theorem over_eq (n : Nat) (hn : 1003 ≤ n) (s : Schema) (l : List Row) : law15_over n s l = some (overP s l) := by
  unfold law15_over overP
  simp only [jn]
  by_cases h1 : 20 < s.tables.length
  · rw [decide_eq_true (by omega : (s.tables.length : Int) > 20), decide_eq_true h1]; rfl
  · rw [decide_eq_false (by omega : ¬ (s.tables.length : Int) > 20), decide_eq_false h1]
    by_cases h2 : 100 < l.length
    · rw [decide_eq_true (by omega : (l.length : Int) > 100), decide_eq_true h2]; rfl
    · rw [decide_eq_false (by omega : ¬ (l.length : Int) > 100), decide_eq_false h2]
      show law15_over_l1 n n (l, (l.length : Int), ((0 : Nat) : Int), ()) = _
      unfold law15_over_l1
      refine (run_loop l (fun (i : Nat) (_ : Unit) => (l, (l.length : Int), (i : Int), ())) (fun _ x _ => if bigRow x then .inl (some true) else .inr ()) (fun _ => some false) (fun r i s x hx hi => ?_) (fun r s => ?_) n 0 () (by omega) (by omega)).trans ?_
      · simp only [lt_dec hi, cond_true, idx_nat, hx, Option.bind_some, wrap_succ (show i < 4611686018427387904 by omega)]
        unfold bigRow
        cases decide ((x.note.size : Int) > 100) <;> rfl
      · simp only [ge_dec (Nat.lt_irrefl _), cond_false]
      · rw [List.drop_zero, runL_any]
        cases l.any bigRow <;> rfl
theorem overP_len {s : Schema} {l : List Row} (h : overP s l = false) : s.tables.length ≤ 20 ∧ l.length ≤ 100 := by
  unfold overP at h
  simp only [Bool.or_eq_false_iff, decide_eq_false_iff_not] at h
  omega
def overS (x : Serial) : Bool := ((overP x.schema x.rows || overP x.schema x.begun) || decide (20 < x.marks.length)) || x.marks.any (overP x.schema)
theorem overS_eq (n : Nat) (hn : 1003 ≤ n) (x : Serial) : law15_overSerial n x = some (overS x) := by
  unfold law15_overSerial overS
  simp only [jn, over_eq n hn, Option.bind_some]
  cases h1 : overP x.schema x.rows with
  | true => rfl
  | false =>
    cases h2 : overP x.schema x.begun with
    | true => rfl
    | false =>
      by_cases h3 : 20 < x.marks.length
      · rw [decide_eq_true (by omega : (x.marks.length : Int) > 20), decide_eq_true h3]; rfl
      · rw [decide_eq_false (by omega : ¬ (x.marks.length : Int) > 20), decide_eq_false h3]
        show law15_overSerial_l1 n n (x.marks, (x.marks.length : Int), ((0 : Nat) : Int), x, ()) = _
        unfold law15_overSerial_l1
        refine (run_loop x.marks (fun (i : Nat) (_ : Unit) => (x.marks, (x.marks.length : Int), (i : Int), x, ())) (fun _ y _ => if overP x.schema y then .inl (some true) else .inr ()) (fun _ => some false) (fun r i s y hy hi => ?_) (fun r s => ?_) n 0 () (by omega) (by omega)).trans ?_
        · simp only [lt_dec hi, cond_true, idx_nat, hy, Option.bind_some, over_eq n hn, wrap_succ (show i < 4611686018427387904 by omega)]
          cases overP x.schema y <;> rfl
        · simp only [ge_dec (Nat.lt_irrefl _), cond_false]
        · rw [List.drop_zero, runL_any]
          cases x.marks.any (overP x.schema) <;> rfl
structure SmallS (x : Serial) : Prop where
  tables : x.schema.tables.length ≤ 1000
  rows : x.rows.length ≤ 1000
  begun : x.begun.length ≤ 1000
  marks : x.marks.length ≤ 1000
  each : ∀ l ∈ x.marks, l.length ≤ 1000
theorem overS_small {x : Serial} (h : overS x = false) : SmallS x := by
  unfold overS at h
  simp only [Bool.or_eq_false_iff, decide_eq_false_iff_not] at h
  obtain ⟨⟨⟨h1, h2⟩, h3⟩, h4⟩ := h
  have a := overP_len h1
  have b := overP_len h2
  refine ⟨by omega, by omega, by omega, by omega, fun l hl => ?_⟩
  have := List.any_eq_false.1 h4 l hl
  have := overP_len (by simpa using this)
  omega
theorem bounds_eqb (x : Bounds) : Bounds.eqb x x = true := by simp [Bounds.eqb]
theorem sameB_eq (n : Nat) (hn : 1003 ≤ n) (a b : List Bounds) (ha : a.length ≤ 1000) : slices_Equal_Bounds n a b = some (sameL Bounds.eqb a b) := by
  unfold slices_Equal_Bounds
  rw [ineN]
  by_cases h : a.length = b.length
  · rw [decide_eq_true h]
    show slices_Equal_Bounds_l1 n n (a, b, (a.length : Int), ((0 : Nat) : Int), ()) = _
    unfold slices_Equal_Bounds_l1
    refine (run_loop a (fun (i : Nat) (_ : Unit) => (a, b, (a.length : Int), (i : Int), ())) (fun i x _ => if atE Bounds.eqb b i x then .inr () else .inl (some false)) (fun _ => some true) (fun r i q x hx hi => ?_) (fun r q => ?_) n 0 () (by omega) (by omega)).trans ?_
    · have hb := get_some (show i < b.length by omega)
      simp only [lt_dec hi, cond_true, idx_nat, hx, hb, Option.bind_some, wrap_succ (show i < 4611686018427387904 by omega), atE]
      cases Bounds.eqb x b[i] <;> rfl
    · simp only [ge_dec (Nat.lt_irrefl _), cond_false]
    · rw [List.drop_zero, runL_allFrom, sameL_from b a 0 (by omega), List.drop_zero]
      cases sameL Bounds.eqb a b <;> rfl
  · rw [decide_eq_false h, sameL_len h]; rfl
theorem sameM_eq (n : Nat) (hn : 1003 ≤ n) (a b : List (List Row)) (ha : a.length ≤ 1000) (hea : ∀ l ∈ a, l.length ≤ 1000) : slices_EqualFunc_Row_f23 n a b = some (sameL rowsSame a b) := by
  unfold slices_EqualFunc_Row_f23
  rw [ineN]
  by_cases h : a.length = b.length
  · rw [decide_eq_true h]
    show slices_EqualFunc_Row_f23_l1 n n (b, a, (a.length : Int), ((0 : Nat) : Int), ()) = _
    unfold slices_EqualFunc_Row_f23_l1
    refine (run_loop a (fun (i : Nat) (_ : Unit) => (b, a, (a.length : Int), (i : Int), ())) (fun i x _ => if atE rowsSame b i x then .inr () else .inl (some false)) (fun _ => some true) (fun r i q x hx hi => ?_) (fun r q => ?_) n 0 () (by omega) (by omega)).trans ?_
    · have hb := get_some (show i < b.length by omega)
      simp only [lt_dec hi, cond_true, idx_nat, hx, hb, Option.bind_some, same_eq n hn x _ (hea x (List.mem_of_getElem? hx)), wrap_succ (show i < 4611686018427387904 by omega), atE]
      cases rowsSame x b[i] <;> rfl
    · simp only [ge_dec (Nat.lt_irrefl _), cond_false]
    · rw [List.drop_zero, runL_allFrom, sameL_from b a 0 (by omega), List.drop_zero]
      cases sameL rowsSame a b <;> rfl
  · rw [decide_eq_false h, sameL_len h]; rfl
def serSame (a b : Serial) : Bool := (((sameL Bounds.eqb a.schema.tables b.schema.tables && rowsSame a.rows b.rows) && rowsSame a.begun b.begun) && sameL rowsSame a.marks b.marks) && (a.over == b.over)
theorem serSame_refl (a : Serial) : serSame a a = true := by
  unfold serSame
  rw [sameL_refl bounds_eqb, rowsSame_refl, rowsSame_refl, sameL_refl rowsSame_refl]
  simp
theorem isame_eq (n : Nat) (hn : 1003 ≤ n) (a b : Serial) (ha : SmallS a) : ideal_Same n a b = some (serSame a b) := by
  unfold ideal_Same serSame
  simp only [jn, sameB_eq n hn _ _ ha.tables, same_eq n hn _ _ ha.rows, same_eq n hn _ _ ha.begun, sameM_eq n hn _ _ ha.marks ha.each, Option.bind_some]
  cases sameL Bounds.eqb a.schema.tables b.schema.tables <;> cases rowsSame a.rows b.rows <;> cases rowsSame a.begun b.begun <;> cases sameL rowsSame a.marks b.marks <;> rfl
theorem rsameS_eq (n : Nat) (hn : 1003 ≤ n) (a b : Serial) (ha : SmallS a) : ref15_Same n a b = some (serSame a b) := by
  have hT := ha.tables
  have hM := ha.marks
  unfold ref15_Same serSame
  simp only [jn, ineN]
  by_cases h1 : a.schema.tables.length = b.schema.tables.length
  · rw [decide_eq_true h1]
    by_cases h2 : a.marks.length = b.marks.length
    · rw [decide_eq_true h2]
      cases h3 : (a.over == b.over) with
      | false =>
        simp only [Bool.not_true, Bool.not_false, cond_true, cond_false, Bool.and_false]
      | true =>
        have hl2 : ref15_Same_l2 n n (0, a, b, ()) = some ((sameL rowsSame a.marks b.marks && rowsSame a.rows b.rows) && rowsSame a.begun b.begun) := by
          show ref15_Same_l2 n n (((0 : Nat) : Int), a, b, ()) = _
          unfold ref15_Same_l2
          refine (run_loop a.marks (fun (i : Nat) (_ : Unit) => ((i : Int), a, b, ())) (fun i x _ => if atE rowsSame b.marks i x then .inr () else .inl (some false)) (fun _ => some (rowsSame a.rows b.rows && rowsSame a.begun b.begun)) (fun r i q x hx hi => ?_) (fun r q => ?_) n 0 () (by omega) (by omega)).trans ?_
          · have hb := get_some (show i < b.marks.length by omega)
            simp only [lt_dec hi, cond_true, idx_nat, hx, hb, Option.bind_some, rsame_eq n hn x _ (ha.each x (List.mem_of_getElem? hx)), wrap_succ (show i < 4611686018427387904 by omega), atE]
            cases rowsSame x b.marks[i] <;> rfl
          · simp only [ge_dec (Nat.lt_irrefl _), cond_false, rsame_eq n hn _ _ ha.rows, rsame_eq n hn _ _ ha.begun, Option.bind_some, jn]
            cases rowsSame a.rows b.rows <;> rfl
          · rw [List.drop_zero, runL_allFrom, sameL_from b.marks a.marks 0 (by omega), List.drop_zero]
            cases sameL rowsSame a.marks b.marks <;> rfl
        have hl1 : ref15_Same_l1 n n (0, a, b, ()) = some (sameL Bounds.eqb a.schema.tables b.schema.tables && ((sameL rowsSame a.marks b.marks && rowsSame a.rows b.rows) && rowsSame a.begun b.begun)) := by
          show ref15_Same_l1 n n (((0 : Nat) : Int), a, b, ()) = _
          unfold ref15_Same_l1
          refine (run_loop a.schema.tables (fun (i : Nat) (_ : Unit) => ((i : Int), a, b, ())) (fun i x _ => if atE Bounds.eqb b.schema.tables i x then .inr () else .inl (some false)) (fun _ => some ((sameL rowsSame a.marks b.marks && rowsSame a.rows b.rows) && rowsSame a.begun b.begun)) (fun r i q x hx hi => ?_) (fun r q => ?_) n 0 () (by omega) (by omega)).trans ?_
          · have hb := get_some (show i < b.schema.tables.length by omega)
            simp only [lt_dec hi, cond_true, idx_nat, hx, hb, Option.bind_some, wrap_succ (show i < 4611686018427387904 by omega), atE]
            cases Bounds.eqb x b.schema.tables[i] <;> rfl
          · simp only [ge_dec (Nat.lt_irrefl _), cond_false]
            exact hl2
          · rw [List.drop_zero, runL_allFrom, sameL_from b.schema.tables a.schema.tables 0 (by omega), List.drop_zero]
            cases sameL Bounds.eqb a.schema.tables b.schema.tables <;> rfl
        rw [hl1]
        simp only [Bool.not_true, cond_false]
        cases sameL Bounds.eqb a.schema.tables b.schema.tables <;> cases rowsSame a.rows b.rows <;> cases rowsSame a.begun b.begun <;> cases sameL rowsSame a.marks b.marks <;> rfl
    · rw [decide_eq_false h2, sameL_len h2]
      simp only [Bool.not_true, Bool.not_false, cond_true, cond_false, Bool.and_false, Bool.false_and]
  · rw [decide_eq_false h1, sameL_len h1]
    simp only [Bool.not_false, cond_true, Bool.false_and]
def ansSame (a b : Answer) : Bool := (decide (a.err = b.err) && decide (a.n = b.n)) && rowsSame a.rows b.rows
theorem ansSame_refl (a : Answer) : ansSame a a = true := by
  unfold ansSame
  rw [rowsSame_refl]
  simp
theorem sameAns_eq (n : Nat) (hn : 1003 ≤ n) (a b : Answer) (ha : a.rows.length ≤ 1000) : ideal_SameAnswer n a b = some (ansSame a b) := by
  unfold ideal_SameAnswer ansSame
  simp only [jn, ibeq, same_eq n hn _ _ ha, Option.bind_some]
  cases decide (a.err = b.err) <;> cases decide (a.n = b.n) <;> rfl
theorem rsameAns_eq (n : Nat) (hn : 1003 ≤ n) (a b : Answer) (ha : a.rows.length ≤ 1000) : ref15_SameAnswer n a b = some (ansSame a b) := by
  unfold ref15_SameAnswer ansSame
  simp only [jn, ibeq, rsame_eq n hn _ _ ha, Option.bind_some]
  cases decide (a.err = b.err) <;> cases decide (a.n = b.n) <;> rfl
theorem plainIdealSame (x y : Serial) (l : Arr2_Answer) (h1 : okT tab 9 (.st 9) x) (h2 : okT tab 9 (.st 9) y) (h3 : okT tab 9 (.st 10) l) : ∃ n, law15_IdealSame n x y l = some true := by
  refine ⟨2000, ?_⟩
  have hn : 1003 ≤ 2000 := by decide
  unfold law15_IdealSame
  rw [wakes]
  simp only [Option.bind_some, Bool.not_true, cond_false, jn, overS_eq 2000 hn, over_eq 2000 hn]
  cases hx : overS x with
  | true => rfl
  | false =>
    cases hy : overS y with
    | true => rfl
    | false =>
      cases ha : overP (Schema.mk ([] : List Bounds)) l.a0.rows with
      | true => rfl
      | false =>
        cases hb : overP (Schema.mk ([] : List Bounds)) l.a1.rows with
        | true => rfl
        | false =>
          have sx := overS_small hx
          have la := (overP_len ha).2
          have e1 : ∀ b : Bool, (b == b) = true := by intro b; cases b <;> rfl
          simp only [cond_false, isame_eq 2000 hn _ _ sx, rsameS_eq 2000 hn _ _ sx, Option.bind_some, e1, cond_true, serSame_refl, sameAns_eq 2000 hn l.a0 _ (by omega), rsameAns_eq 2000 hn l.a0 _ (by omega), ansSame_refl]
end Go.Proofs.Ytdjageadgkillaa
