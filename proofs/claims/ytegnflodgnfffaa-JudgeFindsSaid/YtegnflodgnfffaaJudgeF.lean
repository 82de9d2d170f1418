/- Layer 27: an answer that is another one is found. The plain law JudgeFinds. -/
import Derived.Test.YtegnflodgnfffaaJudgeT
namespace Go.Proofs.Ytegnflodgnfffaa
open Go.Bur
set_option linter.unusedSimpArgs false
set_option linter.unusedVariables false
set_option maxRecDepth 100000

theorem playR_app (t : Int) (B : List Entry) : ∀ (A : List Entry) (i : Nat) (x y : Serial), playE t A x = some y → playR t (A ++ B) i x = playR t B (i + A.length) y
  | [], i, x, y, h => by obtain rfl := Option.some.inj h; rfl
  | e :: A, i, x, y, h => by
    simp only [List.cons_append, List.length_cons]
    rw [show i + (A.length + 1) = i + 1 + A.length from by omega]
    generalize hR : playR t B (i + 1 + A.length) y = R
    unfold playR
    simp only [playE] at h
    cases ht : (e.txn == t) with
    | false => rw [ht] at h; exact (playR_app t B A _ _ _ h).trans hR
    | true =>
      rw [ht] at h
      cases hp : passesB e with
      | true => rw [hp] at h; exact (playR_app t B A _ _ _ h).trans hR
      | false =>
        rw [hp] at h
        cases ha : ansSame (stepAll x e.request).2 e.answer with
        | true => rw [ha] at h; exact (playR_app t B A _ _ _ h).trans hR
        | false => rw [ha] at h; cases h
theorem playR_all (t : Int) {A : List Entry} {x y : Serial} (i : Nat) (h : playE t A x = some y) : playR t A i x = (0, (0, false, ⟨y⟩, ())) := by
  have := playR_app t [] A i x y h
  rw [List.append_nil] at this
  exact this
theorem mem_set {α : Type} {l : List α} {j : Nat} {a x : α} (h : x ∈ l.set j a) : x ∈ l ∨ x = a := List.mem_or_eq_of_mem_set h
theorem finds {s : Schema} (hs : SchIn s) (hr : right s = true) (l0 : List Row) : ∀ (T : List law27_Turn) (i : Nat) (l : List Row) (pre : List Entry) (j : Nat) (e e' : Entry), (∀ t ∈ T, TurnIn t) → i + T.length ≤ 100 → listOk s l = true → (∀ e ∈ pre, e.txn ≤ (i : Int)) →
    (playedP s i T l).1[j]? = some e → e.txn ∈ ordE (playedP s i T l).1 → e'.txn = e.txn → e'.request = e.request → passesB e' = false → e'.answer.n ≠ e.answer.n →
    replayR ⟨s, l0, pre ++ (playedP s i T l).1.set j e'⟩ (ordE (playedP s i T l).1) l = (((pre.length + j : Nat) : Int), false, [])
  | [], i, l, pre, j, e, e', _, _, _, _, he, _, _, _, _, _ => by simp [playedP] at he
  | t :: T, i, l, pre, j, e, e', hT, hi, hl, hp, he, ho, k1, k2, k3, k4 => by
    have G := grp_of hs hr i (hT t (by simp)) hl
    have hT' : ∀ t ∈ T, TurnIn t := fun t ht => hT t (by simp [ht])
    have hi' : (i + 1) + T.length ≤ 100 := by simp at hi; omega
    have H := hist hs hr T (i + 1) (turnOf s i t l).2.rows hT' hi' (fin_ok G.fin)
    have hp' : ∀ e ∈ pre ++ (turnOf s i t l).1, e.txn ≤ ((i + 1 : Nat) : Int) := fun e he => by
      rcases List.mem_append.1 he with h | h
      · have := hp e h; omega
      · have := G.txn e h; omega
    have hG : ordE (turnOf s i t l).1 = if t.commits then [((i + 1 : Nat) : Int)] else [] := G.com
    simp only [playedP] at he ho ⊢
    rw [ord_app, hG] at ho ⊢
    have hskip : ∀ x, playE ((i + 1 : Nat) : Int) pre x = some x := fun x => play_skip _ pre _ (fun e he => by have := hp e he; omega)
    by_cases hj : j < (turnOf s i t l).1.length
    · -- in this transaction
      rw [List.getElem?_append_left hj] at he
      have hem := List.mem_of_getElem? he
      have htx := G.txn e hem
      have hc : t.commits = true := by
        cases hc : t.commits with
        | true => rfl
        | false =>
          rw [hc] at ho
          simp only [Bool.false_eq_true, if_false, List.nil_append] at ho
          have := ord_in (P := fun x => (((i + 1 : Nat) : Int)) < x) (fun x hx => (H.txn x hx).1) _ ho
          omega
      rw [hc]
      simp only [if_true, List.singleton_append, replayR]
      obtain ⟨z, z1, z2⟩ := G.step j e he
      have hset : ((turnOf s i t l).1 ++ (playedP s (i + 1) T (turnOf s i t l).2.rows).1).set j e' = (turnOf s i t l).1.take j ++ (e' :: ((turnOf s i t l).1.drop (j + 1) ++ (playedP s (i + 1) T (turnOf s i t l).2.rows).1)) := by
        rw [List.set_append_left _ _ hj, List.set_eq_take_append_cons_drop, if_pos hj, List.append_assoc, List.cons_append]
      have hlt : ((turnOf s i t l).1.take j).length = j := by simp; omega
      have key : playO ⟨s, l0, pre ++ ((turnOf s i t l).1 ++ (playedP s (i + 1) T (turnOf s i t l).2.rows).1).set j e'⟩ ((i + 1 : Nat) : Int) l = (1, (((pre.length + j : Nat) : Int), false, ⟨z⟩, ())) := by
        unfold playO
        show playR ((i + 1 : Nat) : Int) (pre ++ ((turnOf s i t l).1 ++ (playedP s (i + 1) T (turnOf s i t l).2.rows).1).set j e') 0 (beginS s l) = _
        rw [hset, playR_app _ _ pre _ _ _ (hskip _), playR_app _ _ _ _ _ _ z1, hlt, Nat.zero_add]
        have ha : ansSame (stepAll z e'.request).2 e'.answer = false := by
          rw [k2, ← z2]
          unfold ansSame
          rw [show decide (e.answer.n = e'.answer.n) = false from decide_eq_false fun h => k4 h.symm]
          simp
        unfold playR
        rw [show (e'.txn == ((i + 1 : Nat) : Int)) = true from by rw [k1]; simpa using htx, k3, ha]
        rfl
      rw [key]
      rfl
    · -- later
      have hj' : (turnOf s i t l).1.length ≤ j := by omega
      rw [List.getElem?_append_right hj'] at he
      have hem := List.mem_of_getElem? he
      have htx := H.txn e hem
      rw [List.set_append_right _ _ hj']
      have hset : ∀ x ∈ (playedP s (i + 1) T (turnOf s i t l).2.rows).1.set (j - (turnOf s i t l).1.length) e', x.txn ≠ ((i + 1 : Nat) : Int) := fun x hx => by
        rcases mem_set hx with h | h
        · have := (H.txn x h).1; omega
        · rw [h, k1]; omega
      have ho' : e.txn ∈ ordE (playedP s (i + 1) T (turnOf s i t l).2.rows).1 := by
        rcases List.mem_append.1 ho with h | h
        · exfalso
          cases hc : t.commits with
          | false => rw [hc] at h; simp at h
          | true =>
            rw [hc] at h
            simp only [if_true, List.mem_singleton] at h
            omega
        · exact h
      have R := finds hs hr l0 T (i + 1) (turnOf s i t l).2.rows (pre ++ (turnOf s i t l).1) (j - (turnOf s i t l).1.length) e e' hT' hi' (fin_ok G.fin) hp' he ho' k1 k2 k3 k4
      rw [List.append_assoc, List.length_append, show pre.length + (turnOf s i t l).1.length + (j - (turnOf s i t l).1.length) = pre.length + j from by omega] at R
      cases hc : t.commits with
      | false =>
        have hy := G.rows hc
        rw [show (beginS s l).begun = l from rfl] at hy
        rw [hy] at R ⊢
        simpa using R
      | true =>
        simp only [if_true, List.singleton_append, replayR]
        have key : playO ⟨s, l0, pre ++ ((turnOf s i t l).1 ++ (playedP s (i + 1) T (turnOf s i t l).2.rows).1.set (j - (turnOf s i t l).1.length) e')⟩ ((i + 1 : Nat) : Int) l = (0, (0, false, ⟨(turnOf s i t l).2⟩, ())) := by
          unfold playO
          refine playR_all _ _ ?_
          show playE ((i + 1 : Nat) : Int) (pre ++ ((turnOf s i t l).1 ++ (playedP s (i + 1) T (turnOf s i t l).2.rows).1.set (j - (turnOf s i t l).1.length) e')) (beginS s l) = _
          rw [play_app, hskip, Option.bind_some, play_app, G.play, Option.bind_some, play_skip _ _ _ hset]
        rw [key]
        exact R
theorem ord_set {l : List Entry} {j : Nat} {e e' : Entry} (h : l[j]? = some e) (h1 : commits e = false) (h2 : commits e' = false) : ordE (l.set j e') = ordE l := by
  have hj : j < l.length := by
    rcases Nat.lt_or_ge j l.length with h' | h'
    · exact h'
    · rw [List.getElem?_eq_none h'] at h; cases h
  have he : l[j] = e := by rw [get_some hj] at h; exact Option.some.inj h
  have e1 : l = l.take j ++ e :: l.drop (j + 1) := by
    rw [← he, ← drop_cons hj, List.take_append_drop]
  rw [List.set_eq_take_append_cons_drop, if_pos hj]
  conv => rhs; rw [e1]
  simp only [ordE, List.filter_append, List.filter_cons, h1, h2]
  rfl
theorem plainJudgeFinds (s : Schema) (l : List Row) (x : law27_Lie) (h1 : okT tab 9 (.st 1) s) (h2 : okT tab 9 (.sl (.st 3)) l) (h3 : okT tab 9 (.st 13) x) : ∃ n, law27_JudgeFinds n s l x = some true := by
  refine ⟨4000, ?_⟩
  have hn : 3000 ≤ 4000 := by omega
  have hs : SchIn s := sch_in h1
  have hT : ∀ t ∈ x.turns, TurnIn t := fun t ht q hq => ((h3.1.1 t ht).1.1 q hq).2.2.2.2.2.1
  unfold law27_JudgeFinds
  simp only [wakes27, overRows_eq 4000 (by omega), Option.bind_some, jn, Bool.not_true, cond_false]
  by_cases ht : (s.tables.length : Int) > 20
  · rw [decide_eq_true ht]; rfl
  · rw [decide_eq_false ht]
    simp only [cond_false]
    cases ho : overRowsP l with
    | true => rfl
    | false =>
      have hl : l.length ≤ 1000 := by
        unfold overRowsP at ho
        simp only [Bool.or_eq_false_iff, decide_eq_false_iff_not] at ho
        omega
      simp only [cond_false, played_eq 4000 hn hs (by omega : s.tables.length ≤ 1000) l hl x.turns hT, Option.bind_some]
      cases hr : right s with
      | false => rfl
      | true =>
        cases hlo : listOk s l with
        | false => rfl
        | true =>
          have P := played_ok hs (by omega : s.tables.length ≤ 1000) hl hT hr hlo
          have hT' : ∀ t ∈ x.turns.take 12, TurnIn t := fun t h => hT t (List.mem_of_mem_take h)
          have F := fun j e e' => finds hs hr l (x.turns.take 12) 0 l [] j e e' hT' (by have : (x.turns.take 12).length ≤ 12 := by simp; omega
                                                                                        omega) hlo (by simp)
          generalize (playedP s 0 (x.turns.take 12) l).1 = es at P F
          generalize (playedP s 0 (x.turns.take 12) l).2 = e at P
          simp only [List.nil_append, List.length_nil, Nat.zero_add] at F
          simp only [Bool.and_self, if_true, Bool.not_true, cond_false, Option.bind_some]
          by_cases h0 : es.length = 0
          · rw [show ((es.length : Int) == 0) = true from by simpa using h0]; rfl
          · rw [show ((es.length : Int) == 0) = false from by simpa using h0]
            have hol : (ordE es).length ≤ 156 := Nat.le_trans (ord_len es) P.len
            have hoi : ∀ t ∈ ordE es, 1 ≤ t ∧ t ≤ 100 := ord_in P.txn
            simp only [cond_false, jorder_eq 4000 hn ⟨s, l, es⟩ P.small, P.right, if_true, Option.bind_some, show ((0 : Int) != 0) = false from rfl]
            show law27_JudgeFinds_l1 4000 4000 (e, ((ordE es).length : Int), ((0 : Nat) : Int), x, ⟨s, l, es⟩, ([] : List (Int × Bool)), ordE es, ()) = some true
            unfold law27_JudgeFinds_l1
            have key : ∀ (o : List Int) (i : Nat) (m : List (Int × Bool)) (fin : List (Int × Bool) → Option Bool), runL (fun _ t m => (.inr ((t, true) :: m) : Option Bool ⊕ List (Int × Bool))) fin o i m = fin (o.foldl (fun m x => (x, true) :: m) m) := by
              intro o
              induction o with
              | nil => intro i m fin; rfl
              | cons t o ih => intro i m fin; simp only [runL, List.foldl_cons]; exact ih _ _ _
            have hlen := P.len
            have hu := wrap_u64 x.at_
            obtain ⟨u, hu'⟩ := Int.eq_ofNat_of_zero_le hu
            have e1 : IntKind.wrap .u64 (es.length : Int) = (es.length : Int) := by rw [IntKind.wrap_u64]; omega
            have hm : remP (IntKind.wrap .u64 x.at_) (IntKind.wrap .u64 (es.length : Int)) = some ((u % es.length : Nat) : Int) := by
              unfold remP
              rw [e1, hu', if_pos (by omega)]
              simp [Int.tmod]
            have hz : u % es.length < es.length := Nat.mod_lt _ (by omega)
            generalize u % es.length = z at hm hz
            have e2 : IntKind.wrap .i64 (z : Int) = (z : Int) := by rw [IntKind.wrap_i64]; omega
            have hg := get_some hz
            refine (run_loopI (ordE es) (fun (i : Nat) (m : List (Int × Bool)) => (e, ((ordE es).length : Int), (i : Int), x, History.mk s l es, m, ordE es, ())) (fun _ t m => .inr ((t, true) :: m)) (fun m => if mget false m es[z].txn then (if es[z].request.kind = 11 then some true else
                let y := Entry.mk es[z].txn es[z].request (Answer.mk es[z].answer.err es[z].answer.rows (IntKind.wrap .i64 (es[z].answer.n + 1)))
                (judge_Check 4000 ⟨s, l, es.set z y⟩).bind fun y26 => cond (y26 != 0) (some true) (cond (passesB y) (some true) ((judge_Judge 4000 ⟨s, l, es.set z y⟩ e).bind fun y29 => cond (y29.1 == (z : Int)) (some (y29.2 == 371)) (some false)))) else some true) (fun i m => m.length ≤ i) (fun i m t m' _ hm he => ?_) (fun r i m t hk hi hm => ?_) (fun r m _ => ?_) 4000 0 [] (Nat.zero_le _) (by omega) (Nat.le_refl _)).trans ?_
            · simp only [Sum.inr.injEq] at he; subst he; simp only [List.length_cons]; omega
            · obtain ⟨q1, q2⟩ := hoi t (List.mem_of_getElem? hk)
              simp only [lt_dec hi, cond_true, idx_nat, hk, Option.bind_some, mput_ok (m := m) q1 (by omega) (by omega) true, wrap_succ (show i < 4611686018427387904 by omega)]
            · obtain ⟨q1, q2⟩ := P.txn _ (List.getElem_mem hz)
              simp only [ge_dec (Nat.lt_irrefl _), cond_false, hm, Option.bind_some, e2, idx_nat, hg, mlook_ok (m := m) q1 (show es[z].txn ≤ 1073741824 by omega), jn, app_lt (l := ([] : List Entry)) (m := es) (b := 120) (by simp; omega) (by omega), List.nil_append, put_ok hz, passes_eq]
              by_cases k11 : es[z].request.kind = 11
              · rw [show (es[z].request.kind == 11) = true from by simpa using k11, if_pos k11]
                cases mget false m es[z].txn <;> rfl
              · rw [show (es[z].request.kind == 11) = false from by simpa using k11, if_neg k11]
                cases mget false m es[z].txn with
                | false => rfl
                | true =>
                  simp only [Bool.not_true, cond_false, if_true]
                  cases judge_Check 4000 ⟨s, l, es.set z (Entry.mk es[z].txn es[z].request (Answer.mk es[z].answer.err es[z].answer.rows (IntKind.wrap .i64 (es[z].answer.n + 1))))⟩ with
                  | none => rfl
                  | some v =>
                    simp only [Option.bind_some]
                    cases (v != 0) <;> cases passesB (Entry.mk es[z].txn es[z].request (Answer.mk es[z].answer.err es[z].answer.rows (IntKind.wrap .i64 (es[z].answer.n + 1)))) <;> rfl
            · rw [List.drop_zero, key]
              have hget : mget false ((ordE es).foldl (fun m x => (x, true) :: m) []) es[z].txn = decide (es[z].txn ∈ ordE es) := inO_eq _ _
              simp only [hget]
              by_cases hin : es[z].txn ∈ ordE es
              · rw [decide_eq_true hin, if_pos rfl]
                by_cases k11 : es[z].request.kind = 11
                · rw [if_pos k11]
                · rw [if_neg k11]
                  have hne : IntKind.wrap .i64 (es[z].answer.n + 1) ≠ es[z].answer.n := by rw [IntKind.wrap_i64]; omega
                  have F1 := F z es[z] (Entry.mk es[z].txn es[z].request (Answer.mk es[z].answer.err es[z].answer.rows (IntKind.wrap .i64 (es[z].answer.n + 1)))) hg hin rfl rfl
                  have hcm : ∀ a, commits ⟨es[z].txn, es[z].request, a⟩ = false := fun a => by
                    unfold commits
                    rw [show (es[z].request.kind == 11) = false from by simpa using k11]; rfl
                  have hord := ord_set (e' := Entry.mk es[z].txn es[z].request (Answer.mk es[z].answer.err es[z].answer.rows (IntKind.wrap .i64 (es[z].answer.n + 1)))) hg (hcm _) (hcm _)
                  have hmem : ∀ y ∈ es.set z (Entry.mk es[z].txn es[z].request (Answer.mk es[z].answer.err es[z].answer.rows (IntKind.wrap .i64 (es[z].answer.n + 1)))), ∃ y' ∈ es, y.request = y'.request ∧ y.answer.rows = y'.answer.rows := fun y hy => by
                    rcases mem_set hy with h | h
                    · exact ⟨y, h, rfl, rfl⟩
                    · subst h; exact ⟨es[z], List.getElem_mem hz, rfl, rfl⟩
                  have sm : SmallH ⟨s, l, es.set z (Entry.mk es[z].txn es[z].request (Answer.mk es[z].answer.err es[z].answer.rows (IntKind.wrap .i64 (es[z].answer.n + 1))))⟩ := ⟨P.small.tables, P.small.begun, by show (es.set _ _).length ≤ 2100; rw [List.length_set]; omega, fun y hy => by
                    obtain ⟨y', q1, _, q2⟩ := hmem y hy
                    rw [q2]; exact P.small.each y' q1⟩
                  have vv : ∀ y ∈ es.set z (Entry.mk es[z].txn es[z].request (Answer.mk es[z].answer.err es[z].answer.rows (IntKind.wrap .i64 (es[z].answer.n + 1)))), i64 y.request.val := fun y hy => by
                    obtain ⟨y', q1, q2, _⟩ := hmem y hy
                    rw [q2]; exact P.vals y' q1
                  rw [jcheck_eq 4000 hn _ sm, judge_eq 4000 hn sm hs vv]
                  simp only [Option.bind_some]
                  cases hrt : rightH ⟨s, l, es.set z (Entry.mk es[z].txn es[z].request (Answer.mk es[z].answer.err es[z].answer.rows (IntKind.wrap .i64 (es[z].answer.n + 1))))⟩ with
                  | false => rfl
                  | true =>
                    simp only [if_true, show ((0 : Int) != 0) = false from rfl, cond_false]
                    cases hps : passesB (Entry.mk es[z].txn es[z].request (Answer.mk es[z].answer.err es[z].answer.rows (IntKind.wrap .i64 (es[z].answer.n + 1)))) with
                    | true => rfl
                    | false =>
                      have F2 := F1 hps hne
                      have hj : judgeP ⟨s, l, es.set z (Entry.mk es[z].txn es[z].request (Answer.mk es[z].answer.err es[z].answer.rows (IntKind.wrap .i64 (es[z].answer.n + 1))))⟩ e = ((z : Int), 371) := by
                        unfold judgeP
                        rw [hrt]
                        have : orderP ⟨s, l, es.set z (Entry.mk es[z].txn es[z].request (Answer.mk es[z].answer.err es[z].answer.rows (IntKind.wrap .i64 (es[z].answer.n + 1))))⟩ = ordE es := hord
                        rw [this]
                        simp only [if_true]
                        rw [F2]
                        rfl
                      rw [hj]
                      simp
              · rw [decide_eq_false hin, if_neg (by decide)]
end Go.Proofs.Ytegnflodgnfffaa
