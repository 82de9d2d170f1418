/- Layer 15: the plain law IdealSteps. -/
import Derived.Test.YtegnflodgnfffaaIdealD
namespace Go.Proofs.Ytegnflodgnfffaa
open Go.Bur
set_option linter.unusedSimpArgs false
set_option linter.unusedVariables false
set_option maxRecDepth 100000

def serOk (x : Serial) : Bool := right x.schema && (listOk x.schema x.rows && (listOk x.schema x.begun && (x.marks.all (listOk x.schema) && (decide (x.marks.length ≤ 8) && !(x.over && decide (0 < x.marks.length))))))
theorem check1_eq (n : Nat) (hn : 1003 ≤ n) (x : Serial) (hs : x.schema.tables.length ≤ 1000) (l : List Row) (hl : l.length ≤ 1000) : ideal_Check_1 n l x = some (!(right x.schema && listOk x.schema l)) := by
  unfold ideal_Check_1
  rw [checkList_eq n hn x.schema hs l hl]
  cases right x.schema <;> cases listOk x.schema l <;> rfl
theorem marks_eq (n : Nat) (hn : 1003 ≤ n) (x : Serial) (h : SmallS x) : slices_ContainsFunc_Row_f64 n x.marks x = some (!x.marks.all fun l => right x.schema && listOk x.schema l) := by
  have hM := h.marks
  have h1 : slices_IndexFunc_Row_f64 n x.marks x = some (ixI (x.marks.findIdx? fun l => !(right x.schema && listOk x.schema l))) := by
    show slices_IndexFunc_Row_f64_l1 n n (x.marks, x, (x.marks.length : Int), ((0 : Nat) : Int), ()) = _
    unfold slices_IndexFunc_Row_f64_l1
    refine (run_loop x.marks (fun (i : Nat) (_ : Unit) => (x.marks, x, (x.marks.length : Int), (i : Int), ())) (fun i l _ => if !(right x.schema && listOk x.schema l) then .inl (some (i : Int)) else .inr ()) (fun _ => some (-1)) (fun r i q l hl hi => ?_) (fun r q => ?_) n 0 () (by omega) (by omega)).trans ?_
    · simp only [lt_dec hi, cond_true, idx_nat, hl, Option.bind_some, check1_eq n hn x h.tables l (h.each l (List.mem_of_getElem? hl)), wrap_succ (show i < 4611686018427387904 by omega)]
      cases (right x.schema && listOk x.schema l) <;> rfl
    · simp only [ge_dec (Nat.lt_irrefl _), cond_false]
    · rw [List.drop_zero, runL_find0]
      unfold ixI
      cases x.marks.findIdx? (fun l => !(right x.schema && listOk x.schema l)) with
      | none => rfl
      | some j => simp
  unfold slices_ContainsFunc_Row_f64
  rw [h1]
  have h2 : (!x.marks.all fun l => right x.schema && listOk x.schema l) = x.marks.any fun l => !(right x.schema && listOk x.schema l) := by rw [List.not_all_eq_any_not]
  rw [h2, any_find]
  cases x.marks.findIdx? (fun l => !(right x.schema && listOk x.schema l)) with
  | none => rfl
  | some j =>
    show some (decide ((j : Int) ≥ 0)) = some true
    rw [decide_eq_true (by omega)]
theorem icheck_eq (n : Nat) (hn : 1003 ≤ n) (x : Serial) (h : SmallS x) : ideal_Check n x = some (if serOk x then 0 else 251) := by
  unfold ideal_Check serOk
  rw [check1_eq n hn x h.tables _ h.rows, check1_eq n hn x h.tables _ h.begun, marks_eq n hn x h]
  have h8 : decide ((x.marks.length : Int) > 8) = !decide (x.marks.length ≤ 8) := by
    by_cases e : x.marks.length ≤ 8
    · rw [decide_eq_true e, decide_eq_false (by omega)]; rfl
    · rw [decide_eq_false e, decide_eq_true (by omega)]; rfl
  have h0 : decide ((x.marks.length : Int) > 0) = decide (0 < x.marks.length) := by
    by_cases e : 0 < x.marks.length
    · rw [decide_eq_true e, decide_eq_true (by omega)]
    · rw [decide_eq_false e, decide_eq_false (by omega)]
  simp only [jn, Option.bind_some, h8, h0]
  cases right x.schema with
  | false => rfl
  | true =>
    simp only [Bool.true_and]
    cases listOk x.schema x.rows with
    | false => rfl
    | true => cases listOk x.schema x.begun with
      | false => rfl
      | true => cases x.marks.all (listOk x.schema) <;> cases decide (x.marks.length ≤ 8) <;> cases x.over <;> cases decide (0 < x.marks.length) <;> rfl
def withR (x : Serial) (l : List Row) : Serial := ⟨x.schema, l, x.begun, x.marks, x.over⟩
def stepP (x : Serial) (q : Request) : Serial × Answer :=
  if q.kind = 9 then (if x.marks.length = 8 then (x, ansE 6) else (⟨x.schema, x.rows, x.begun, x.marks ++ [x.rows], x.over⟩, ⟨0, [], (x.marks.length : Int) + 1⟩))
  else if q.kind = 10 then (if q.n > (x.marks.length : Int) then (x, ansE 4) else match idx x.marks (q.n - 1) with
    | some m => (⟨x.schema, m, x.begun, x.marks.take q.n.toNat, x.over⟩, ansE 0)
    | none => (x, ansE 4))
  else if q.kind = 11 then (⟨x.schema, x.rows, x.begun, [], true⟩, ansE 0)
  else if q.kind = 12 then (⟨x.schema, x.begun, x.begun, [], true⟩, ansE 0)
  else (withR x (doP x.schema x.rows q).2, (doP x.schema x.rows q).1)
def stepAll (x : Serial) (q : Request) : Serial × Answer :=
  if serOk x then (if x.over then (x, ansE 252) else if reqOk x.schema q then stepP x q else (x, ansE 250)) else (x, ansE 251)
theorem serOk_facts {x : Serial} (h : serOk x = true) : right x.schema = true ∧ listOk x.schema x.rows = true ∧ listOk x.schema x.begun = true ∧ (∀ l ∈ x.marks, listOk x.schema l = true) ∧ x.marks.length ≤ 8 ∧ (x.over = true → x.marks = []) := by
  unfold serOk at h
  simp only [Bool.and_eq_true, decide_eq_true_iff, Bool.not_eq_true'] at h
  obtain ⟨h1, h2, h3, h4, h5, h6⟩ := h
  refine ⟨h1, h2, h3, List.all_eq_true.1 h4, h5, fun e => ?_⟩
  rw [e, Bool.true_and, decide_eq_false_iff_not] at h6
  exact List.eq_nil_of_length_eq_zero (by omega)
theorem cloneM {l : List (List Row)} (h : l.length ≤ 1000) : app 24 ([] : List (List Row)) l = some l := by rw [app_lt (by simp; omega) (by decide)]; rfl
theorem sub_take {α : Type} (l : List α) {i : Int} (h0 : 0 ≤ i) (h1 : i ≤ l.length) : sub l 0 i = some (l.take i.toNat) := by
  obtain ⟨k, rfl⟩ := Int.eq_ofNat_of_zero_le h0
  exact (sub_ok (Nat.zero_le k) (by omega)).trans (by simp)
theorem istep_eq (n : Nat) (hn : 1003 ≤ n) {x : Serial} {q : Request} (h : SmallS x) (hok : serOk x = true) (hq : reqOk x.schema q = true) (hk : 8 < q.kind) : ideal_step n x q = some (stepP x q) := by
  obtain ⟨k1, k2, k3, k4, k5, k6, k7⟩ := reqOk_facts hq
  obtain ⟨f1, f2, f3, f4, f5, f6⟩ := serOk_facts hok
  unfold ideal_step ideal_step_j1 ideal_step_j2 ideal_step_j3 stepP
  simp only [ibeq q.kind, jn]
  by_cases e9 : q.kind = 9
  · rw [decide_eq_true e9, if_pos e9, cond_true, show ((x.marks.length : Int) == 8) = decide (x.marks.length = 8) from ieqN (m := 8)]
    by_cases e8 : x.marks.length = 8
    · rw [decide_eq_true e8, if_pos e8]; rfl
    · have hs : sub3 x.marks (x.marks.length : Int) (x.marks.length : Int) = some x.marks := by
        unfold sub3
        rw [decide_eq_true rfl]
        show sub x.marks 0 (x.marks.length : Int) = _
        rw [sub_take x.marks (by omega) (Int.le_refl _)]
        simp
      have ha : app 24 x.marks [x.rows] = some (x.marks ++ [x.rows]) := app_lt (by simp; omega) (by decide)
      rw [decide_eq_false e8, if_neg e8]
      simp only [cond_false, hs, Option.bind_some, clone_ok n x.rows h.rows, ha, wrap_in (show -9223372036854775808 ≤ (x.marks.length : Int) + 1 ∧ (x.marks.length : Int) + 1 ≤ 9223372036854775807 by omega)]
  rw [decide_eq_false e9, if_neg e9, cond_false]
  by_cases e10 : q.kind = 10
  · have hn1 := k7 e10
    rw [decide_eq_true e10, if_pos e10, cond_true]
    by_cases eg : q.n > (x.marks.length : Int)
    · rw [decide_eq_true eg, if_pos eg]; rfl
    · obtain ⟨m, hm⟩ := idx_in (l := x.marks) (i := q.n - 1) (by omega)
      have hml := idx_some hm
      have hs : sub3 x.marks q.n q.n = some (x.marks.take q.n.toNat) := by
        unfold sub3
        rw [decide_eq_true rfl]
        show sub x.marks 0 q.n = _
        rw [sub_take x.marks (by omega) (by omega)]
      rw [decide_eq_false eg, if_neg eg, wrap_in (by omega), hm]
      simp only [cond_false, Option.bind_some, clone_ok n m (h.each m hml.2.2), hs]
      rfl
  rw [decide_eq_false e10, if_neg e10, cond_false]
  by_cases e11 : q.kind = 11
  · rw [decide_eq_true e11, if_pos e11]; rfl
  rw [decide_eq_false e11, if_neg e11, cond_false]
  have e12 : q.kind = 12 := by omega
  rw [decide_eq_true e12, if_pos e12, cond_true, clone_ok n x.begun h.begun]; rfl
theorem stepP_low {x : Serial} {q : Request} (hk : q.kind ≤ 8) : stepP x q = (withR x (doP x.schema x.rows q).2, (doP x.schema x.rows q).1) := by
  unfold stepP
  rw [if_neg (by omega), if_neg (by omega), if_neg (by omega), if_neg (by omega)]
theorem step_eq (n : Nat) (hn : 1003 ≤ n) {x : Serial} {q : Request} (h : SmallS x) (hv : i64 q.val) (hi : ∀ r ∈ x.rows, i64 r.val) : ideal_Step n x q = some (stepAll x q) := by
  unfold ideal_Step stepAll
  rw [icheck_eq n hn x h]
  cases hok : serOk x with
  | false => rfl
  | true =>
    obtain ⟨f1, f2, f3, f4, f5, f6⟩ := serOk_facts hok
    simp only [if_true, Option.bind_some, show ((0 : Int) != 0) = false from rfl, cond_false, checkReq_eq n hn x.schema h.tables, f1]
    cases ho : x.over with
    | true => rfl
    | false =>
      cases hq : reqOk x.schema q with
      | false => rfl
      | true =>
        simp only [cond_false, if_true, show ((0 : Int) != 0) = false from rfl, Bool.false_eq_true, if_false]
        by_cases hk : q.kind > 8
        · rw [decide_eq_true hk, cond_true, istep_eq n hn h hok hq hk]; rfl
        · have hd := does_eq n hn (s := x.schema) (l := x.rows) (q := q) ⟨f1, f2, hq, by omega, hv, hi⟩
          rw [decide_eq_false hk, cond_false, hd, stepP_low (by omega)]
          simp only [Option.bind_some, withR, ho]
theorem begin_eq (n : Nat) (hn : 1003 ≤ n) (s : Schema) (l : List Row) (hs : s.tables.length ≤ 1000) (hl : l.length ≤ 1000) : ideal_Begin n s l = some (if right s then (if listOk s l then (⟨s, l, l, [], false⟩, 0) else (⟨⟨[]⟩, [], [], [], false⟩, 151)) else (⟨⟨[]⟩, [], [], [], false⟩, 150)) := by
  unfold ideal_Begin
  rw [checkList_eq n hn s hs l hl]
  cases right s with
  | false => rfl
  | true =>
    cases listOk s l with
    | false => rfl
    | true => simp [clone_ok n l hl]
theorem small_step {x : Serial} {q : Request} (h : SmallS x) : SmallS (stepAll x q).1 ∧ (stepAll x q).2.rows.length ≤ 1000 := by
  have h0 : ∀ e, SmallS (x, ansE e).1 ∧ (x, ansE e).2.rows.length ≤ 1000 := fun e => ⟨h, by simp [ansE]⟩
  unfold stepAll
  split
  · rename_i hok
    obtain ⟨f1, f2, f3, f4, f5, f6⟩ := serOk_facts hok
    have hl := (listOk_iff.1 f2).2
    split
    · exact h0 _
    · split
      · unfold stepP
        split
        · split
          · exact h0 _
          · exact ⟨⟨h.tables, h.rows, h.begun, by simp; omega, fun l hl => by
              rcases List.mem_append.1 hl with hl | hl
              · exact h.each l hl
              · simp at hl; subst hl; exact h.rows⟩, by simp⟩
        · split
          · split
            · exact h0 _
            · split
              · rename_i m hm
                exact ⟨⟨h.tables, h.each m (idx_some hm).2.2, h.begun, by have := h.marks; simp; omega, fun l hl => h.each l (List.mem_of_mem_take hl)⟩, by simp [ansE]⟩
              · exact h0 _
          · split
            · exact ⟨⟨h.tables, h.rows, h.begun, by simp, by simp⟩, by simp [ansE]⟩
            · split
              · exact ⟨⟨h.tables, h.begun, h.begun, by simp, by simp⟩, by simp [ansE]⟩
              · obtain ⟨l1, l2⟩ := doP_len x.schema x.rows q
                exact ⟨⟨h.tables, by show (doP x.schema x.rows q).2.length ≤ _; omega, h.begun, h.marks, h.each⟩, by show (doP x.schema x.rows q).1.rows.length ≤ _; omega⟩
      · exact h0 _
  · exact h0 _
theorem ser_rows {x : Serial} (h : okT tab 9 (.st 9) x) : ∀ r ∈ x.rows, i64 r.val := fun r hr => (h.2.1.1 r hr).2.2.1
end Go.Proofs.Ytegnflodgnfffaa
