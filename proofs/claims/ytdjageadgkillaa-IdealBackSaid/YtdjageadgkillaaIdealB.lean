/- Layer 15: the plain law IdealBack. -/
import Derived.Test.YtdjageadgkillaaIdealK
namespace Go.Proofs.Ytdjageadgkillaa
open Go.Bur
set_option linter.unusedSimpArgs false
set_option linter.unusedVariables false
set_option maxRecDepth 100000

def markQ : Request := ⟨9, ⟨0, 0⟩, ⟨0, 0⟩, 0, ByteArray.empty, 0⟩
def backQ (n : Int) : Request := ⟨10, ⟨0, 0⟩, ⟨0, 0⟩, 0, ByteArray.empty, n⟩
def abortQ : Request := ⟨12, ⟨0, 0⟩, ⟨0, 0⟩, 0, ByteArray.empty, 0⟩
theorem mark_ok {s : Schema} (h : right s = true) : reqOk s markQ = true := by
  have h0 := inTab0 h
  unfold reqOk moreOk bareP markQ
  simp [Request.eqb, req0, key0] at h0 ⊢
  exact h0
theorem back_ok {s : Schema} (h : right s = true) {n : Int} (hn : 1 ≤ n) : reqOk s (backQ n) = true := by
  have h0 := inTab0 h
  unfold reqOk moreOk bareP backQ
  simp [Request.eqb, req0, key0] at h0 ⊢
  exact ⟨h0, hn⟩
theorem abort_ok {s : Schema} (h : right s = true) : reqOk s abortQ = true := by
  have h0 := inTab0 h
  unfold reqOk moreOk bareP abortQ
  simp [Request.eqb, req0, key0] at h0 ⊢
  exact h0
theorem mark_step {x : Serial} (h : serOk x = true) (ho : x.over = false) : stepAll x markQ = if x.marks.length = 8 then (x, ansE 6) else (⟨x.schema, x.rows, x.begun, x.marks ++ [x.rows], x.over⟩, ⟨0, [], (x.marks.length : Int) + 1⟩) := by
  unfold stepAll stepP
  rw [h, ho, mark_ok (serOk_facts h).1]
  simp [markQ, ho]
theorem back_step {x : Serial} (h : serOk x = true) (ho : x.over = false) {k : Nat} {m : List Row} (hm : x.marks[k]? = some m) : stepAll x (backQ ((k : Int) + 1)) = (⟨x.schema, m, x.begun, x.marks.take (k + 1), x.over⟩, ansE 0) := by
  have hk := (List.getElem?_eq_some_iff.1 hm).1
  unfold stepAll stepP
  rw [h, ho, back_ok (serOk_facts h).1 (by omega)]
  have e1 : ¬ ((k : Int) + 1 > (x.marks.length : Int)) := by omega
  have e2 : ((k : Int) + 1 - 1) = (k : Int) := by omega
  have e3 : ((k : Int) + 1).toNat = k + 1 := by omega
  simp only [backQ, if_true, Bool.false_eq_true, if_false, show ¬ ((10 : Int) = 9) from by decide, if_neg e1, e2, idx_nat, hm, e3, ho]
theorem abort_step {x : Serial} (h : serOk x = true) (ho : x.over = false) : stepAll x abortQ = (⟨x.schema, x.begun, x.begun, [], true⟩, ansE 0) := by
  unfold stepAll stepP
  rw [h, ho, abort_ok (serOk_facts h).1]
  simp [abortQ]
/-- What stands, whatever is asked for but the end. -/
theorem stays {y : Serial} {q : Request} {k : Nat} {m : List Row} (h : serOk y = true) (ho : y.over = false) (hm : y.marks[k]? = some m) (hq : q.kind ≤ 10) (hb : q.kind = 10 → (k : Int) + 1 ≤ q.n) : (stepAll y q).1.over = false ∧ (stepAll y q).1.marks[k]? = some m := by
  have hk := (List.getElem?_eq_some_iff.1 hm).1
  unfold stepAll
  rw [h, ho]
  simp only [if_true, Bool.false_eq_true, if_false]
  split
  · unfold stepP
    split
    · split
      · exact ⟨ho, hm⟩
      · exact ⟨ho, by show (y.marks ++ [y.rows])[k]? = _; rw [List.getElem?_append_left hk]; exact hm⟩
    · split
      · rename_i e10
        have := hb e10
        split
        · exact ⟨ho, hm⟩
        · split
          · refine ⟨ho, ?_⟩
            show (y.marks.take q.n.toNat)[k]? = _
            rw [List.getElem?_take_of_lt (by omega)]; exact hm
          · exact ⟨ho, hm⟩
      · split
        · omega
        · split
          · omega
          · exact ⟨ho, hm⟩
  · exact ⟨ho, hm⟩
theorem ser_sch {x : Serial} (h : okT tab 9 (.st 9) x) : SchIn x.schema := fun b hb => ⟨(h.1.1 b hb).1, (h.1.1 b hb).2.1⟩
theorem plainIdealBack (x : Serial) (l : List Request) (k : Int) (h1 : okT tab 9 (.st 9) x) (h2 : okT tab 9 (.sl (.st 4)) l) (h3 : okT tab 9 (.int .i64) k) : ∃ n, law15_IdealBack n x l k = some true := by
  obtain ⟨N, hN⟩ : ∃ N, N = 2000 := ⟨2000, rfl⟩
  refine ⟨N, ?_⟩
  have hn : 1003 ≤ N := by omega
  have hw : law15_wakes N = some true := by rw [hN]; exact wakes
  unfold law15_IdealBack
  rw [hw]
  simp only [Option.bind_some, Bool.not_true, cond_false, overS_eq N hn, jn]
  cases hos : overS x with
  | true => rfl
  | false =>
    have sm := overS_small hos
    have hsx := ser_sch h1
    simp only [cond_false, icheck_eq N hn x sm, Option.bind_some]
    cases hok : serOk x with
    | false => rfl
    | true =>
      cases ho : x.over with
      | true => rfl
      | false =>
        have hst := fun (q : Request) (hv : i64 q.val) (y : Serial) (hy : serOk y = true) (hys : y.schema = x.schema) => step_eq N hn (x := y) (q := q) (serOk_small hy) hv (good_i64 (by rw [hys]; exact hsx) (serOk_facts hy).2.1)
        have z64 : i64 0 := ⟨by decide, by decide⟩
        have hm := hst markQ z64 x hok rfl
        simp only [if_true, show ((0 : Int) != 0) = false from rfl, cond_false, show Request.mk 9 (Key.mk 0 0) (Key.mk 0 0) 0 ByteArray.empty 0 = markQ from rfl, hm, Option.bind_some, mark_step hok ho]
        by_cases e8 : x.marks.length = 8
        · simp [e8, ansE]
        · rw [if_neg e8]
          simp only [show ((0 : Int) != 0) = false from rfl, cond_false]
          obtain ⟨f1, f2, f3, f4, f5, f6⟩ := serOk_facts hok
          have hy0 : serOk ⟨x.schema, x.rows, x.begun, x.marks ++ [x.rows], x.over⟩ = true := by
            have := (keep_step (q := markQ) hok hsx z64).1
            rw [mark_step hok ho, if_neg e8] at this
            exact this
          have hj1 : ∀ y : Serial, serOk y = true → y.schema = x.schema → y.begun = x.begun → y.over = false → y.marks[x.marks.length]? = some x.rows → law15_IdealBack_j1 N (x, y, ⟨0, [], (x.marks.length : Int) + 1⟩, ()) = some true := by
            intro y hy hys hyb hyo hym
            have hlt := (List.getElem?_eq_some_iff.1 hym).1
            have hb := hst (backQ ((x.marks.length : Int) + 1)) z64 y hy hys
            have ha := hst abortQ z64 y hy hys
            rw [back_step hy hyo hym] at hb
            rw [abort_step hy hyo] at ha
            unfold law15_IdealBack_j1
            dsimp only
            rw [show Request.mk 10 (Key.mk 0 0) (Key.mk 0 0) 0 ByteArray.empty ((x.marks.length : Int) + 1) = backQ ((x.marks.length : Int) + 1) from rfl, hb]
            rw [show Request.mk 12 (Key.mk 0 0) (Key.mk 0 0) 0 ByteArray.empty 0 = abortQ from rfl, ha]
            have hlen : ((y.marks.take (x.marks.length + 1)).length : Int) = (x.marks.length : Int) + 1 := by
              rw [List.length_take]; omega
            have e1 : row_Same N x.rows x.rows = some true := by rw [same_eq N hn _ _ sm.rows, rowsSame_refl]
            have e2 : row_Same N y.begun x.begun = some true := by rw [hyb, same_eq N hn _ _ sm.begun, rowsSame_refl]
            have hlen' : (y.marks.take (x.marks.length + 1)).length = x.marks.length + 1 := by rw [List.length_take]; omega
            have e3 : (((y.marks.take (x.marks.length + 1)).length : Int) != (x.marks.length : Int) + 1) = false := by rw [hlen]; simp
            simp only [Option.bind_some, jn, ansE, show ((0 : Int) != 0) = false from rfl, show ((0 : Int) == 0) = true from rfl, cond_true, cond_false, e1, e2, e3, Bool.not_true]
          show law15_IdealBack_l2 N (law15_IdealBack_j1 N) N (l, (l.length : Int), ((0 : Nat) : Int), x, ⟨x.schema, x.rows, x.begun, x.marks ++ [x.rows], x.over⟩, ⟨0, [], (x.marks.length : Int) + 1⟩, ()) = _
          unfold law15_IdealBack_l2
          refine loop_true (some true) (min l.length 30) (fun (i : Nat) (y : Serial) => (l, (l.length : Int), (i : Int), x, y, Answer.mk 0 [] ((x.marks.length : Int) + 1), ())) (fun i y => serOk y = true ∧ y.schema = x.schema ∧ y.begun = x.begun ∧ y.over = false ∧ y.marks[x.marks.length]? = some x.rows) (fun r i y hi0 hI => ?_) (fun r y hI => ?_) N 0 _ (Nat.zero_le _) (by omega) ⟨hy0, rfl, rfl, ho, by simp⟩
          · obtain ⟨a1, a2, a3, a4, a5⟩ := hI
            have hi : i < l.length := by omega
            have hq := get_some hi
            have hv : i64 (l[i]).val := req_i64 (h2.1 _ (List.getElem_mem hi))
            have hs := hst l[i] hv y a1 a2
            simp only [lt_dec hi, cond_true, idx_nat, hq, Option.bind_some, jn, law15_IdealBack_j3, wrap_succ (show i < 4611686018427387904 by omega), ibeq (l[i]).kind]
            rw [show ((i : Int) == 30) = decide (i = 30) from ieqN (m := 30), decide_eq_false (by omega : ¬ i = 30), cond_false]
            have hskip : ∃ s', r (l, (l.length : Int), ((i + 1 : Nat) : Int), x, y, Answer.mk 0 [] ((x.marks.length : Int) + 1), ()) = r (l, (l.length : Int), ((i + 1 : Nat) : Int), x, s', Answer.mk 0 [] ((x.marks.length : Int) + 1), ()) ∧ serOk s' = true ∧ s'.schema = x.schema ∧ s'.begun = x.begun ∧ s'.over = false ∧ s'.marks[x.marks.length]? = some x.rows := ⟨y, rfl, a1, a2, a3, a4, a5⟩
            have hgo : (l[i]).kind ≤ 10 → ((l[i]).kind = 10 → (x.marks.length : Int) + 1 ≤ (l[i]).n) → ∃ s', ((ideal_Step N y l[i]).bind fun y44 => r (l, (l.length : Int), ((i + 1 : Nat) : Int), x, y44.1, Answer.mk 0 [] ((x.marks.length : Int) + 1), ())) = r (l, (l.length : Int), ((i + 1 : Nat) : Int), x, s', Answer.mk 0 [] ((x.marks.length : Int) + 1), ()) ∧ serOk s' = true ∧ s'.schema = x.schema ∧ s'.begun = x.begun ∧ s'.over = false ∧ s'.marks[x.marks.length]? = some x.rows := fun hk hb => by
              obtain ⟨b1, b2, b3⟩ := keep_step (q := l[i]) a1 (by rw [a2]; exact hsx) hv
              obtain ⟨c1, c2⟩ := stays (q := l[i]) a1 a4 a5 hk hb
              exact ⟨(stepAll y l[i]).1, by rw [hs]; rfl, b1, b2.trans a2, b3.trans a3, c1, c2⟩
            right
            by_cases e10 : (l[i]).kind = 10
            · rw [decide_eq_true e10, cond_true]
              by_cases en : (l[i]).n < (x.marks.length : Int) + 1
              · rw [decide_eq_true en]; exact hskip
              · rw [decide_eq_false en]
                rw [decide_eq_false (by omega : ¬ (l[i]).kind ≥ 11)]
                cases decide (((l[i]).note.size : Int) > 100) with
                | true => exact hskip
                | false => exact hgo (by omega) (fun _ => by omega)
            · rw [decide_eq_false e10, cond_false]
              by_cases e11 : (l[i]).kind ≥ 11
              · rw [decide_eq_true e11]; exact hskip
              · rw [decide_eq_false e11]
                cases decide (((l[i]).note.size : Int) > 100) with
                | true => exact hskip
                | false => exact hgo (by omega) (fun e => absurd e e10)
          · obtain ⟨a1, a2, a3, a4, a5⟩ := hI
            by_cases hlt : l.length ≤ 30
            · rw [Nat.min_eq_left hlt]
              simp only [ge_dec (Nat.lt_irrefl _), cond_false]
              exact hj1 y a1 a2 a3 a4 a5
            · rw [Nat.min_eq_right (by omega)]
              simp only [lt_dec (show 30 < l.length by omega), cond_true, idx_nat, get_some (show 30 < l.length by omega), Option.bind_some, show (((30 : Nat) : Int) == 30) = true from rfl, jn]
              exact hj1 y a1 a2 a3 a4 a5
end Go.Proofs.Ytdjageadgkillaa
