/- Layer 15: the plain law IdealAdds. -/
import Derived.Test.YtdjageadgkillaaIdealK
namespace Go.Proofs.Ytdjageadgkillaa
open Go.Bur
set_option linter.unusedSimpArgs false
set_option linter.unusedVariables false
set_option maxRecDepth 100000

/-- All values raised, each by what its key is given. -/
def addM (d : Key → Int) (l : List Row) : List Row := l.map fun r => withV r (r.val + d r.key)
theorem addM_comm (d e : Key → Int) (l : List Row) : addM d (addM e l) = addM e (addM d l) := by
  unfold addM
  rw [List.map_map, List.map_map]
  refine List.map_congr_left fun r _ => ?_
  simp only [Function.comp, withV]
  congr 1
  omega
def one1 (k : Key) (v : Int) : Key → Int := fun x => if x = k then v else 0
theorem put_map {l : List Row} (hs : Srt l) {r : Row} {k : Key} (hr : getK l k = some r) (v : Int) : putK l (withV r (r.val + v)) = addM (one1 k v) l := by
  obtain ⟨hm, hk⟩ := getK_mem hr
  rcases at_cases hs k with ⟨_, h2, _⟩ | ⟨A, y, B, h, h1, h2, h3, _⟩
  · rw [h2] at hr; cases hr
  · rw [hr] at h2
    injection h2 with h2
    subst h2
    rw [putK_at (r := withV r (r.val + v)) (show At l r.key A (some r) B by rw [hk]; exact h)]
    conv => rhs; rw [h.eq]
    have hA : A.map (fun r => withV r (r.val + one1 k v r.key)) = A := by
      conv => rhs; rw [← List.map_id A]
      refine List.map_congr_left fun x hx => ?_
      have : x.key ≠ k := fun e => by have := h.lo x hx; rw [cmpK_zero.2 e] at this; omega
      simp [one1, this, withV]
    have hB : B.map (fun r => withV r (r.val + one1 k v r.key)) = B := by
      conv => rhs; rw [← List.map_id B]
      refine List.map_congr_left fun x hx => ?_
      have : x.key ≠ k := fun e => by have := h.hi x hx; rw [e, cmpK_zero.2 rfl] at this; omega
      simp [one1, this, withV]
    unfold addM
    rw [List.map_append, List.map_append, hA, hB]
    simp [one1, hk]
theorem addM_add (d e : Key → Int) (l : List Row) : addM d (addM e l) = addM (fun k => e k + d k) l := by
  unfold addM
  rw [List.map_map]
  refine List.map_congr_left fun r _ => ?_
  simp only [Function.comp, withV]
  congr 1
  omega
theorem srt_addM {l : List Row} (hs : Srt l) (d : Key → Int) : Srt (addM d l) := by
  unfold Srt addM
  rw [List.pairwise_map]
  exact hs
/-- What a blind request that is OK comes to. -/
def deltaQ (q : Request) : Key → Int := fun k => if q.kind = 7 then one1 q.key q.val k else one1 q.to q.val k + one1 q.key (-q.val) k
theorem blind_ok {s : Schema} {l : List Row} {q : Request} (h : Fit s l q) (hk : q.kind = 7 ∨ q.kind = 8) (he : (doP s l q).1.err = 0) : (doP s l q).2 = addM (deltaQ q) l ∧ ∃ r, getK l q.key = some r ∧ i64 (r.val + (if q.kind = 7 then q.val else -q.val)) ∧ (q.kind = 8 → ∃ t, getK l q.to = some t ∧ i64 (t.val + q.val)) := by
  obtain ⟨k1, k2, k3, k4, k5, k6, _⟩ := reqOk_facts h.req
  obtain ⟨hg, hl⟩ := listOk_iff.1 h.list
  unfold doP at he ⊢
  rcases hk with hk | hk
  · have hd : deltaQ q = one1 q.key q.val := by funext k; simp [deltaQ, hk]
    rw [hk] at he ⊢
    simp only [show ¬ ((7 : Int) = 1) from by decide, show ¬ ((7 : Int) = 2) from by decide, show ¬ ((7 : Int) = 3) from by decide, show ¬ ((7 : Int) = 4) from by decide, show ¬ ((7 : Int) = 5) from by decide, show ¬ ((7 : Int) = 6) from by decide, if_false, if_true] at he ⊢
    unfold onRow at he ⊢
    cases hr : getK l q.key with
    | none => rw [hr] at he; simp [ansE] at he
    | some r =>
      rw [hr] at he
      cases hb : sumB s r q.val with
      | false => simp [hb, ansE] at he
      | true =>
        obtain ⟨e1, e2, e3⟩ := sumB_facts hb
        simp only [hb, if_true]
        rw [hd]
        exact ⟨by rw [e1]; exact put_map hg.2 hr q.val, r, rfl, e2, fun e => absurd e (by decide)⟩
  · have hd : deltaQ q = fun k => one1 q.to q.val k + one1 q.key (-q.val) k := by funext k; simp [deltaQ, hk]
    obtain ⟨hne, _⟩ := k6 hk
    rw [hk] at he ⊢
    simp only [show ¬ ((8 : Int) = 1) from by decide, show ¬ ((8 : Int) = 2) from by decide, show ¬ ((8 : Int) = 3) from by decide, show ¬ ((8 : Int) = 4) from by decide, show ¬ ((8 : Int) = 5) from by decide, show ¬ ((8 : Int) = 6) from by decide, show ¬ ((8 : Int) = 7) from by decide, if_false, if_true] at he ⊢
    unfold onRow at he ⊢
    cases hr : getK l q.key with
    | none => rw [hr] at he; simp [ansE] at he
    | some r =>
      rw [hr] at he
      cases ht : getK l q.to with
      | none => rw [ht] at he; simp [ansE] at he
      | some t =>
        rw [ht] at he
        cases hb : sumB s r (-q.val) with
        | false => simp [hb, ansE] at he
        | true =>
          cases hb2 : sumB s t q.val with
          | false => simp [hb, hb2, ansE] at he
          | true =>
            obtain ⟨e1, e2, e3⟩ := sumB_facts hb
            obtain ⟨f1, f2, f3⟩ := sumB_facts hb2
            simp only [hb, hb2, Bool.and_self, if_true]
            have p1 := put_map hg.2 ht q.val
            have p2 : getK (addM (one1 q.to q.val) l) q.key = some r := by
              rw [← p1, getK_put hg.2 (r := withV t (t.val + q.val)) (x := t) (k := q.key) (show t.key ≠ q.key by rw [(getK_mem ht).2]; exact fun e => hne e.symm) (by show getK l t.key = _; rw [(getK_mem ht).2]; exact ht)]
              exact hr
            refine ⟨?_, r, rfl, e2, fun _ => ⟨t, rfl, f2⟩⟩
            rw [f1, p1, e1, put_map (srt_addM hg.2 _) p2 (-q.val), addM_add, hd]
theorem idx_map {l : List Row} {f : Row → Row} {i : Nat} {x : Row} (h : idx l (i : Int) = some x) : idx (l.map f) (i : Int) = some (f x) := by
  rw [idx_nat] at h ⊢
  simp [h]
theorem do_keep {s : Schema} {l : List Row} {q : Request} (hs : SchIn s) (hv : i64 q.val) (hr : right s = true) (hg : listOk s l = true) : listOk s (doAll s l q).2 = true := by
  unfold doAll
  rw [hr, hg]
  simp only [if_true]
  split
  · rename_i h
    simp only [Bool.and_eq_true, decide_eq_true_iff] at h
    exact keep_do ⟨hr, hg, h.1, h.2, hv, good_i64 hs hg⟩
  · exact hg
theorem do_blind {s : Schema} {l : List Row} {q : Request} (hs : SchIn s) (hv : i64 q.val) (hr : right s = true) (hg : listOk s l = true) (hk : q.kind = 7 ∨ q.kind = 8) (he : (doAll s l q).1.err = 0) : (doAll s l q).2 = addM (deltaQ q) l ∧ (∃ r, getK l q.key = some r ∧ i64 (r.val + (if q.kind = 7 then q.val else -q.val)) ∧ (q.kind = 8 → ∃ t, getK l q.to = some t ∧ i64 (t.val + q.val))) ∧ (q.kind = 8 → q.key ≠ q.to) := by
  unfold doAll at he ⊢
  rw [hr, hg] at he ⊢
  simp only [if_true] at he ⊢
  cases hq : (reqOk s q && decide (q.kind ≤ 8)) with
  | false => rw [hq] at he; simp [ansE] at he
  | true =>
    rw [hq] at he
    simp only [if_true] at he ⊢
    simp only [Bool.and_eq_true, decide_eq_true_iff] at hq
    obtain ⟨b1, b2⟩ := blind_ok ⟨hr, hg, hq.1, hq.2, hv, good_i64 hs hg⟩ hk he
    exact ⟨b1, b2, fun e => ((reqOk_facts hq.1).2.2.2.2.2.1 e).1⟩
theorem reqs_i64 {l : Arr2_Request} (h : okT tab 9 (.st 8) l) : i64 l.a0.val ∧ i64 l.a1.val := ⟨h.2.2.2.2.2.1, h.2.2.2.2.2.2.2.2.2.2.2.2.2.1⟩
theorem adds_j1 (n : Nat) (hn : 1003 ≤ n) (s : Schema) (l : List Row) (q : Arr2_Request) (hs : SchIn s) (hr : right s = true) (hg : listOk s l = true) (h0 : i64 q.a0.val) (h1 : i64 q.a1.val) (k0 : q.a0.kind = 7 ∨ q.a0.kind = 8) (k1 : q.a1.kind = 7 ∨ q.a1.kind = 8) : law15_IdealAdds_j1 n (l, s, q, (doAll s l q.a0).2, (doAll s l q.a0).1, ()) = some true := by
  have hs' : s.tables.length ≤ 1000 := by have := schTab hr; omega
  have g0 := do_keep (q := q.a0) hs h0 hr hg
  have g1 := do_keep (q := q.a1) hs h1 hr hg
  have len : ∀ m, listOk s m = true → m.length ≤ 1000 := fun m hm => by have := (listOk_iff.1 hm).2; omega
  have d01 := do_eq n hn (s := s) (l := (doAll s l q.a0).2) (q := q.a1) hs' (len _ g0) h1 (good_i64 hs g0)
  have d1 := do_eq n hn (s := s) (l := l) (q := q.a1) hs' (len _ hg) h1 (good_i64 hs hg)
  have d10 := do_eq n hn (s := s) (l := (doAll s l q.a1).2) (q := q.a0) hs' (len _ g1) h0 (good_i64 hs g1)
  have len01 := len _ (do_keep (q := q.a1) hs h1 hr g0)
  unfold law15_IdealAdds_j1
  simp only [d01, d1, d10, Option.bind_some, jn, ibne, same_eq n hn _ _ len01]
  by_cases e1 : (doAll s l q.a0).1.err = 0
  · by_cases e2 : (doAll s (doAll s l q.a0).2 q.a1).1.err = 0
    · by_cases e3 : (doAll s l q.a1).1.err = 0
      · by_cases e4 : (doAll s (doAll s l q.a1).2 q.a0).1.err = 0
        · obtain ⟨a1, _⟩ := do_blind hs h0 hr hg k0 e1
          obtain ⟨a2, _⟩ := do_blind hs h1 hr g0 k1 e2
          obtain ⟨a3, _⟩ := do_blind hs h1 hr hg k1 e3
          obtain ⟨a4, _⟩ := do_blind hs h0 hr g1 k0 e4
          have : (doAll s (doAll s l q.a0).2 q.a1).2 = (doAll s (doAll s l q.a1).2 q.a0).2 := by rw [a2, a1, a4, a3, addM_comm]
          rw [this, rowsSame_refl]
          simp [e1, e2, e3, e4]
        · simp [e1, e2, e3, e4]
      · simp [e1, e2, e3]
    · simp [e1, e2]
  · simp [e1]
theorem plainIdealAdds (s : Schema) (l : List Row) (q : Arr2_Request) (o1 : okT tab 9 (.st 1) s) (o2 : okT tab 9 (.sl (.st 3)) l) (o3 : okT tab 9 (.st 8) q) : ∃ n, law15_IdealAdds n s l q = some true := by
  obtain ⟨N, hN⟩ : ∃ N, N = 2000 := ⟨2000, rfl⟩
  refine ⟨N, ?_⟩
  have hn : 1003 ≤ N := by omega
  have hw : law15_wakes N = some true := by rw [hN]; exact wakes
  have hs := sch_in o1
  obtain ⟨h0, h1⟩ := reqs_i64 o3
  unfold law15_IdealAdds law15_IdealAdds_1
  rw [hw]
  simp only [Option.bind_some, Bool.not_true, cond_false, over_eq N hn, jn]
  cases ho : overP s l with
  | true => rfl
  | false =>
    obtain ⟨hs', hl⟩ := overP_len ho
    simp only [cond_false]
    cases decide ((q.a0.note.size : Int) > 100) with
    | true => rfl
    | false =>
      cases decide ((q.a1.note.size : Int) > 100) with
      | true => rfl
      | false =>
        simp only [cond_false, checkList_eq N hn s (show s.tables.length ≤ 1000 by omega) l (show l.length ≤ 1000 by omega), Option.bind_some]
        cases hr : right s with
        | false => rfl
        | true =>
          cases hg : listOk s l with
          | false => rfl
          | true =>
            simp only [if_true, show ((0 : Int) != 0) = false from rfl, cond_false, ibeq q.a0.kind, ibeq q.a1.kind]
            have kk : ∀ (k : Int) (f : Bool → Option Bool), (cond (decide (k = 7)) (some true) (some (decide (k = 8)))).bind f = f (decide (k = 7 ∨ k = 8)) := fun k f => by
              by_cases h7 : k = 7
              · simp [h7]
              · by_cases h8 : k = 8
                · simp [h8]
                · simp [h7, h8]
            simp only [kk]
            by_cases k0 : q.a0.kind = 7 ∨ q.a0.kind = 8
            · by_cases k1 : q.a1.kind = 7 ∨ q.a1.kind = 8
              · have hj := adds_j1 N hn s l q hs hr hg h0 h1 k0 k1
                have hd := do_eq N hn (s := s) (l := l) (q := q.a0) (by omega) (by omega) h0 (good_i64 hs hg)
                simp only [decide_eq_true k0, decide_eq_true k1, Bool.not_true, cond_false, hd, Option.bind_some, ibeq (doAll s l q.a0).1.err]
                by_cases e1 : (doAll s l q.a0).1.err = 0
                · by_cases e8 : q.a0.kind = 8
                  · obtain ⟨a1, ⟨r, b1, b2, b3⟩, hne⟩ := do_blind hs h0 hr hg k0 e1
                    obtain ⟨t, c1, c2⟩ := b3 e8
                    have hne := hne e8
                    have hsrt := (listOk_iff.1 hg).1.2
                    rcases at_cases hsrt q.a0.key with ⟨_, h2, _⟩ | ⟨A, r', B, p1, p2, p3, p4, p5, p6, p7⟩
                    · rw [h2] at b1; cases b1
                    rw [p3] at b1
                    injection b1 with b1
                    subst b1
                    rcases at_cases hsrt q.a0.to with ⟨_, h2, _⟩ | ⟨A2, t', B2, q1, q2, q3, q4, q5, q6, q7⟩
                    · rw [h2] at c1; cases c1
                    rw [q3] at c1
                    injection c1 with c1
                    subst c1
                    rw [e8] at b2
                    have b2 : i64 (r'.val + -q.a0.val) := b2
                    have hi := good_i64 hs hg
                    have x1 : idx (doAll s l q.a0).2 (A.length : Int) = some (withV r' (r'.val + -q.a0.val)) := by
                      rw [a1]
                      refine (idx_map p6).trans ?_
                      have : ¬ q.a0.key = q.a0.to := hne
                      simp [deltaQ, e8, one1, p4, this]
                    have x2 : idx (doAll s l q.a0).2 (A2.length : Int) = some (withV t' (t'.val + q.a0.val)) := by
                      rw [a1]
                      refine (idx_map q6).trans ?_
                      have : ¬ q.a0.to = q.a0.key := fun e => hne e.symm
                      simp [deltaQ, e8, one1, q4, this]
                    have hp : row_Plus N (withV r' (r'.val + -q.a0.val)).val (withV t' (t'.val + q.a0.val)).val = some (plusP r'.val t'.val) := by
                      show row_Plus N (r'.val + -q.a0.val) (t'.val + q.a0.val) = _
                      rw [plus_eq N b2 c2]
                      unfold plusP
                      rw [show r'.val + -q.a0.val + (t'.val + q.a0.val) = r'.val + t'.val from by omega]
                    have eb : ∀ b : Bool, (b == b) = true := by intro b; cases b <;> rfl
                    have ei : ∀ x : Int, (x != x) = false := by intro x; simp
                    simp only [e1, e8, decide_true, cond_true, find_eq N hn l (show l.length ≤ 1000 by omega), p2, q2, Option.bind_some, p6, q6, plus_eq N (hi r' p5) (hi t' q5), x1, x2, hp, eb, Bool.not_true, cond_false, ei]
                    exact hj
                  · simp only [e1, e8, decide_true, decide_false, cond_true, cond_false]
                    exact hj
                · simp only [e1, decide_false, cond_false]
                  exact hj
              · simp [k0, k1]
            · simp [k0]
end Go.Proofs.Ytdjageadgkillaa
