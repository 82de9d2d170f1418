/- Layer 27: histories of transactions that run one behind the other; the plain laws JudgeSerial and JudgeFinds. -/
import Derived.Test.YtegnflodgnfffaaJudgeS
namespace Go.Proofs.Ytegnflodgnfffaa
open Go.Bur
set_option linter.unusedSimpArgs false
set_option linter.unusedVariables false
set_option maxRecDepth 100000

/-! ### The history that is played -/
theorem turn_eq (n : Nat) (hn : 3000 ≤ n) {s : Schema} (hs : SchIn s) (en : Request) (j5 : (List law27_Turn) × Int × Int × Schema × History × (List Bounds) × (List Row) × Serial × (List Entry) × Unit → Option (History × (List Row) × Bool))
    (i : Nat) (hi : i ≤ 100) (T : List law27_Turn) (a b : Int) (S : Schema) (H : History) (tb : List Bounds) (bg : List Row) (reqs : List Request) (hv : ∀ q ∈ reqs, i64 q.val) (hl : reqs.length ≤ 1000) (x : Serial) (hx : PlayOk s x) (es : List Entry) (he : es.length ≤ 1000) :
    law27_played_l6 n j5 n ((i : Int), T, a, b, (reqs.length : Int), 0, S, H, tb, bg, x, en, reqs, es, ()) = j5 (T, a, b, S, H, tb, bg, (turnP ((i + 1 : Nat) : Int) en reqs x).2, es ++ (turnP ((i + 1 : Nat) : Int) en reqs x).1, ()) := by
  show law27_played_l6 n j5 n ((i : Int), T, a, b, (reqs.length : Int), ((0 : Nat) : Int), S, H, tb, bg, x, en, reqs, es, ()) = _
  unfold law27_played_l6
  refine (run_loopI reqs (fun (k : Nat) (s : Serial × List Entry) => ((i : Int), T, a, b, (reqs.length : Int), (k : Int), S, H, tb, bg, s.1, en, reqs, s.2, ()))
    (fun _ y s => if skipQ en y then .inr s else if (stepAll s.1 y).2.err == 250 then .inr s else if (stepAll s.1 y).1.over then .inl (j5 (T, a, b, S, H, tb, bg, (stepAll s.1 y).1, s.2 ++ [⟨((i + 1 : Nat) : Int), y, (stepAll s.1 y).2⟩], ())) else .inr ((stepAll s.1 y).1, s.2 ++ [⟨((i + 1 : Nat) : Int), y, (stepAll s.1 y).2⟩]))
    (fun s => j5 (T, a, b, S, H, tb, bg, s.1, s.2, ())) (fun k z => PlayOk s z.1 ∧ z.2.length ≤ 1000 + k) (fun k z y z' hy hz hst => ?_) (fun r k z y hy hk hz => ?_) (fun r z _ => ?_) n 0 (x, es) (Nat.zero_le _) (by omega) ⟨hx, he⟩).trans ?_
  · have hm := List.mem_of_getElem? hy
    split at hst
    · simp only [Sum.inr.injEq] at hst; subst hst; exact ⟨hz.1, by omega⟩
    · split at hst
      · simp only [Sum.inr.injEq] at hst; subst hst; exact ⟨hz.1, by omega⟩
      · split at hst
        · cases hst
        · simp only [Sum.inr.injEq] at hst; subst hst
          exact ⟨play_step hz.1 hs (hv y hm), by simp; omega⟩
  · have hm := List.mem_of_getElem? hy
    simp only [lt_dec hk, cond_true, idx_nat, hy, Option.bind_some, jn, law27_played_j7, wrap_succ (show k < 4611686018427387904 by omega), wrap_succ (show i < 4611686018427387904 by omega), step_n n (by omega) hz.1 hs (hv y hm), app_lt (l := z.2) (m := [Entry.mk ((i + 1 : Nat) : Int) y (stepAll z.1 y).2]) (b := 120) (by have := hz.2; simp; omega) (by omega)]
    unfold skipQ
    cases decide (y.kind ≥ 11) <;> cases Request.eqb y en <;> cases decide ((y.note.size : Int) > 100) <;> cases ((stepAll z.1 y).2.err == 250) <;> cases (stepAll z.1 y).1.over <;> rfl
  · simp only [ge_dec (Nat.lt_irrefl _), cond_false]
  · rw [List.drop_zero]
    have key : ∀ (l : List Request) (k : Nat) (z : Serial × List Entry), runL (fun _ y (s : Serial × List Entry) => if skipQ en y then .inr s else if (stepAll s.1 y).2.err == 250 then .inr s else if (stepAll s.1 y).1.over then .inl (j5 (T, a, b, S, H, tb, bg, (stepAll s.1 y).1, s.2 ++ [⟨((i + 1 : Nat) : Int), y, (stepAll s.1 y).2⟩], ())) else .inr ((stepAll s.1 y).1, s.2 ++ [⟨((i + 1 : Nat) : Int), y, (stepAll s.1 y).2⟩]))
        (fun s => j5 (T, a, b, S, H, tb, bg, s.1, s.2, ())) l k z = j5 (T, a, b, S, H, tb, bg, (turnP ((i + 1 : Nat) : Int) en l z.1).2, z.2 ++ (turnP ((i + 1 : Nat) : Int) en l z.1).1, ()) := by
      intro l
      induction l with
      | nil => intro k z; simp [runL, turnP]
      | cons y l ih =>
        intro k z
        simp only [runL, turnP]
        cases skipQ en y with
        | true => exact ih _ _
        | false =>
          cases ((stepAll z.1 y).2.err == 250) with
          | true => exact ih _ _
          | false =>
            cases (stepAll z.1 y).1.over with
            | true => rfl
            | false =>
              simp only [Bool.false_eq_true, if_false]
              rw [ih]
              simp only [List.append_assoc, List.singleton_append]
    exact key _ _ _
def turnOf (s : Schema) (i : Nat) (t : law27_Turn) (l : List Row) : List Entry × Serial := turnP ((i + 1 : Nat) : Int) (endQ t.commits) (t.requests.take 12 ++ [endQ t.commits]) (beginS s l)
def playedP (s : Schema) : Nat → List law27_Turn → List Row → List Entry × List Row
  | _, [], l => ([], l)
  | i, t :: ts, l => ((turnOf s i t l).1 ++ (playedP s (i + 1) ts (turnOf s i t l).2.rows).1, (playedP s (i + 1) ts (turnOf s i t l).2.rows).2)
abbrev TurnIn (t : law27_Turn) : Prop := ∀ q ∈ t.requests, i64 q.val
theorem grp_of {s : Schema} (hs : SchIn s) (hr : right s = true) (i : Nat) {t : law27_Turn} (ht : TurnIn t) {l : List Row} (hl : listOk s l = true) : Grp s ((i + 1 : Nat) : Int) t.commits (beginS s l) (turnOf s i t l).1 (turnOf s i t l).2 :=
  grp hs hr _ _ _ _ (fun q hq => ht q (List.mem_of_mem_take hq)) (begin_ok hr hl) rfl
theorem fin_ok {s : Schema} {y : Serial} (h : PlayOk s y) : listOk s y.rows = true := by
  have := (serOk_facts h.ok).2.1
  rw [h.sch] at this
  exact this
theorem turnOf_len (s : Schema) (i : Nat) (t : law27_Turn) (l : List Row) : (turnOf s i t l).1.length ≤ 13 := by
  refine Nat.le_trans (turn_len _ _ _ _) ?_
  simp; omega
theorem played_eq (n : Nat) (hn : 3000 ≤ n) {s : Schema} (hs : SchIn s) (ht : s.tables.length ≤ 1000) (l : List Row) (hl : l.length ≤ 1000) (T : List law27_Turn) (hT : ∀ t ∈ T, TurnIn t) :
    law27_played n s l T = some (if right s && listOk s l then (⟨s, l, (playedP s 0 (T.take 12) l).1⟩, (playedP s 0 (T.take 12) l).2, true) else (⟨s, l, []⟩, [], false)) := by
  unfold law27_played
  rw [checkList_eq n (by omega) s ht l hl]
  cases hr : right s with
  | false => rfl
  | true =>
    cases hlo : listOk s l with
    | false => rfl
    | true =>
      simp only [if_true, Option.bind_some, show ((0 : Int) != 0) = false from rfl, cond_false, jn, Bool.and_self]
      show law27_played_l2 n (law27_played_j1 n) n (l, T, (T.length : Int), ((0 : Nat) : Int), s, (History.mk (Schema.mk ([] : List Bounds)) ([] : List Row) ([] : List Entry)), s.tables, l, ([] : List Entry), ()) = _
      unfold law27_played_l2
      have hlt : (T.take 12).length ≤ 12 := by simp; omega
      refine (run_loopI (T.take 12) (fun (k : Nat) (z : List Row × List Entry) => (z.1, T, (T.length : Int), (k : Int), s, (History.mk (Schema.mk ([] : List Bounds)) ([] : List Row) ([] : List Entry)), s.tables, l, z.2, ()))
        (fun k t z => .inr ((turnOf s k t z.1).2.rows, z.2 ++ (turnOf s k t z.1).1)) (fun z => some (⟨s, l, z.2⟩, z.1, true)) (fun k z => listOk s z.1 = true ∧ z.2.length ≤ 13 * k) (fun k z t z' hk hz hst => ?_) (fun r k z t hk hi hz => ?_) (fun r z _ => ?_) n 0 (l, []) (Nat.zero_le _) (by omega) ⟨hlo, Nat.le_refl _⟩).trans ?_
      · have hm : t ∈ T := List.mem_of_mem_take (List.mem_of_getElem? hk)
        simp only [Sum.inr.injEq] at hst
        subst hst
        refine ⟨fin_ok (grp_of hs hr k (hT t hm) hz.1).fin, ?_⟩
        have := turnOf_len s k t z.1
        simp only [List.length_append]; omega
      · have hm : t ∈ T := List.mem_of_mem_take (List.mem_of_getElem? hk)
        have hk12 : k < 12 := by omega
        have hkT : k < T.length := by simp at hi; omega
        have hk' : T[k]? = some t := by rw [List.getElem?_take, if_pos hk12] at hk; exact hk
        have hz60 := (listOk_iff.1 hz.1).2
        simp only [lt_dec hkT, cond_true, idx_nat, hk', Option.bind_some, show ((k : Int) == 12) = false from by simp; omega, cond_false, begin_eq n (by omega) s z.1 ht (by omega), hr, hz.1, if_true, show ((0 : Int) != 0) = false from rfl, jn]
        have hv : ∀ q ∈ t.requests.take 12 ++ [endQ t.commits], i64 q.val := fun q hq => by
          rcases List.mem_append.1 hq with hq | hq
          · exact hT t hm q (List.mem_of_mem_take hq)
          · simp only [List.mem_singleton] at hq
            subst hq
            exact ⟨by show (-9223372036854775808 : Int) ≤ 0; decide, by show (0 : Int) ≤ 9223372036854775807; decide⟩
        have hlen : (t.requests.take 12).length ≤ 12 := by simp; omega
        have hj3 : law27_played_j3 n r ((k : Int), t.requests.take 12, T, (T.length : Int), (k : Int), s, (History.mk (Schema.mk ([] : List Bounds)) ([] : List Row) ([] : List Entry)), s.tables, l, t, beginS s z.1, z.2, ()) = r ((turnOf s k t z.1).2.rows, T, (T.length : Int), ((k + 1 : Nat) : Int), s, (History.mk (Schema.mk ([] : List Bounds)) ([] : List Row) ([] : List Entry)), s.tables, l, z.2 ++ (turnOf s k t z.1).1, ()) := by
          unfold law27_played_j3
          have hj4 : law27_played_j4 n r ((k : Int), t.requests.take 12, T, (T.length : Int), (k : Int), s, (History.mk (Schema.mk ([] : List Bounds)) ([] : List Row) ([] : List Entry)), s.tables, l, beginS s z.1, endQ t.commits, z.2, ()) = r ((turnOf s k t z.1).2.rows, T, (T.length : Int), ((k + 1 : Nat) : Int), s, (History.mk (Schema.mk ([] : List Bounds)) ([] : List Row) ([] : List Entry)), s.tables, l, z.2 ++ (turnOf s k t z.1).1, ()) := by
            unfold law27_played_j4
            simp only [app_lt (l := ([] : List Request)) (m := t.requests.take 12) (b := 72) (by simp; omega) (by omega), List.nil_append, Option.bind_some, app_lt (l := t.requests.take 12) (m := [endQ t.commits]) (b := 72) (by simp; omega) (by omega), jn]
            rw [turn_eq n hn hs (endQ t.commits) _ k (by omega) T _ _ s _ _ _ _ hv (by simp; omega) (beginS s z.1) (begin_ok hr hz.1) z.2 (by have := hz.2; omega)]
            simp only [law27_played_j5, wrap_succ (show k < 4611686018427387904 by omega)]
            rfl
          cases hc : t.commits with
          | true =>
            rw [hc] at hj4
            simp only [jn, hc, cond_true]
            exact hj4
          | false =>
            rw [hc] at hj4
            simp only [jn, hc, cond_false]
            exact hj4
        by_cases h12 : (t.requests.length : Int) > 12
        · rw [decide_eq_true h12]
          rw [sub_take t.requests (by decide : (0 : Int) ≤ 12) (by omega)]
          exact hj3
        · rw [decide_eq_false h12]
          rw [List.take_of_length_le (by omega : t.requests.length ≤ 12)] at hj3
          exact hj3
      · by_cases h12 : 12 < T.length
        · have e1 : (T.take 12).length = 12 := by simp; omega
          rw [e1]
          simp only [lt_dec h12, cond_true, idx_nat, get_some h12, Option.bind_some, show (((12 : Nat) : Int) == 12) = true from rfl]
          rfl
        · have e1 : (T.take 12).length = T.length := by simp; omega
          rw [e1]
          simp only [ge_dec (Nat.lt_irrefl _), cond_false]
          rfl
      · rw [List.drop_zero]
        have key : ∀ (U : List law27_Turn) (k : Nat) (z : List Row × List Entry), runL (fun k t (z : List Row × List Entry) => (.inr ((turnOf s k t z.1).2.rows, z.2 ++ (turnOf s k t z.1).1) : Option (History × List Row × Bool) ⊕ (List Row × List Entry))) (fun z => some (⟨s, l, z.2⟩, z.1, true)) U k z = some (⟨s, l, z.2 ++ (playedP s k U z.1).1⟩, (playedP s k U z.1).2, true) := by
          intro U
          induction U with
          | nil => intro k z; simp [runL, playedP]
          | cons t U ih =>
            intro k z
            simp only [runL, playedP]
            rw [ih]
            simp only [List.append_assoc]
        rw [key]
        rfl

/-! ### What it comes to -/
structure Hist (s : Schema) (i : Nat) (g : List Entry) (y : List Row) : Prop where
  txn : ∀ e ∈ g, (i : Int) < e.txn ∧ e.txn ≤ 100
  ok : ∀ e ∈ g, reqOk s e.request = true ∧ listOk s e.answer.rows = true
  vals : ∀ e ∈ g, i64 e.request.val
  pair : g.Pairwise fine
  rows : listOk s y = true
theorem hist {s : Schema} (hs : SchIn s) (hr : right s = true) : ∀ (T : List law27_Turn) (i : Nat) (l : List Row), (∀ t ∈ T, TurnIn t) → i + T.length ≤ 100 → listOk s l = true → Hist s i (playedP s i T l).1 (playedP s i T l).2
  | [], i, l, _, _, hl => ⟨fun _ h => absurd h (by simp [playedP]), fun _ h => absurd h (by simp [playedP]), fun _ h => absurd h (by simp [playedP]), by simp [playedP], hl⟩
  | t :: T, i, l, hT, hi, hl => by
    have G := grp_of hs hr i (hT t (by simp)) hl
    have H := hist hs hr T (i + 1) (turnOf s i t l).2.rows (fun t ht => hT t (by simp [ht])) (by simp at hi; omega) (fin_ok G.fin)
    simp only [List.length_cons] at hi
    refine ⟨fun e he => ?_, fun e he => ?_, fun e he => ?_, ?_, H.rows⟩
    · rcases List.mem_append.1 he with h | h
      · have := G.txn e h; omega
      · have := H.txn e h; omega
    · rcases List.mem_append.1 he with h | h
      · exact G.ok e h
      · exact H.ok e h
    · rcases List.mem_append.1 he with h | h
      · exact G.vals e h
      · exact H.vals e h
    · refine List.pairwise_append.2 ⟨G.pair, H.pair, fun a ha b hb hab => ?_⟩
      have h1 := G.txn a ha
      have h2 := H.txn b hb
      omega
theorem play_app (t : Int) (B : List Entry) : ∀ (A : List Entry) (x : Serial), playE t (A ++ B) x = (playE t A x).bind (playE t B)
  | [], x => rfl
  | e :: A, x => by
    simp only [List.cons_append, playE]
    cases e.txn == t with
    | false => exact play_app t B A x
    | true =>
      cases passesB e with
      | true => exact play_app t B A x
      | false =>
        cases ansSame (stepAll x e.request).2 e.answer with
        | true => exact play_app t B A _
        | false => rfl
theorem play_skip (t : Int) : ∀ (A : List Entry) (x : Serial), (∀ e ∈ A, e.txn ≠ t) → playE t A x = some x
  | [], _, _ => rfl
  | e :: A, x, h => by
    simp only [playE]
    rw [show (e.txn == t) = false from by simpa using h e (by simp)]
    exact play_skip t A x fun e he => h e (by simp [he])
def ordE (l : List Entry) : List Int := (l.filter commits).map Entry.txn
theorem ord_app (a b : List Entry) : ordE (a ++ b) = ordE a ++ ordE b := by simp [ordE]
theorem rep {s : Schema} (hs : SchIn s) (hr : right s = true) : ∀ (T : List law27_Turn) (i : Nat) (l : List Row) (pre : List Entry), (∀ t ∈ T, TurnIn t) → i + T.length ≤ 100 → listOk s l = true → (∀ e ∈ pre, e.txn ≤ (i : Int)) →
    replayE s (pre ++ (playedP s i T l).1) (ordE (playedP s i T l).1) l = some (playedP s i T l).2
  | [], i, l, pre, _, _, _, _ => rfl
  | t :: T, i, l, pre, hT, hi, hl, hp => by
    have G := grp_of hs hr i (hT t (by simp)) hl
    have hT' : ∀ t ∈ T, TurnIn t := fun t ht => hT t (by simp [ht])
    have hi' : (i + 1) + T.length ≤ 100 := by simp at hi; omega
    have H := hist hs hr T (i + 1) (turnOf s i t l).2.rows hT' hi' (fin_ok G.fin)
    have R := rep hs hr T (i + 1) (turnOf s i t l).2.rows (pre ++ (turnOf s i t l).1) hT' hi' (fin_ok G.fin) fun e he => by
      rcases List.mem_append.1 he with h | h
      · have := hp e h; omega
      · have := G.txn e h; omega
    have hG : ordE (turnOf s i t l).1 = if t.commits then [((i + 1 : Nat) : Int)] else [] := G.com
    rw [List.append_assoc] at R
    simp only [playedP]
    rw [ord_app, hG]
    cases hc : t.commits with
    | false =>
      have hy := G.rows hc
      rw [show (beginS s l).begun = l from rfl] at hy
      rw [hy] at R ⊢
      simpa using R
    | true =>
      simp only [if_true, List.singleton_append, replayE]
      rw [play_app, play_skip _ pre _ (fun e he => by have := hp e he; omega), Option.bind_some, play_app, G.play, Option.bind_some, play_skip _ _ _ (fun e he => by have := (H.txn e he).1; omega)]
      exact R
theorem ent_ok {s : Schema} {e : Entry} (h0 : 1 ≤ e.txn ∧ e.txn ≤ 100) (h : reqOk s e.request = true ∧ listOk s e.answer.rows = true) : entOk s e = true := by
  unfold entOk
  rw [decide_eq_true h0.1, decide_eq_true (by omega), h.1, h.2]; rfl
theorem right_of {s : Schema} {l : List Row} {es : List Entry} (hr : right s = true) (hl : listOk s l = true) (hlen : es.length ≤ 2000) (h1 : ∀ e ∈ es, entOk s e = true) (h2 : es.Pairwise fine) : rightH ⟨s, l, es⟩ = true := by
  unfold rightH
  simp only [hr, hl, decide_eq_true hlen, entries_ok.2 ⟨h1, h2⟩, Bool.and_self]
theorem played_len (s : Schema) : ∀ (T : List law27_Turn) (i : Nat) (l : List Row), (playedP s i T l).1.length ≤ 13 * T.length
  | [], _, _ => Nat.le_refl _
  | t :: T, i, l => by
    have h1 := turnOf_len s i t l
    have h2 := played_len s T (i + 1) (turnOf s i t l).2.rows
    simp only [playedP, List.length_append, List.length_cons]; omega
theorem judge_ok {s : Schema} {l e : List Row} {es : List Entry} (hr : rightH ⟨s, l, es⟩ = true) (hp : replayE s es (ordE es) l = some e) : judgeP ⟨s, l, es⟩ e = (0, 0) := by
  unfold judgeP
  rw [hr]
  simp only [if_true]
  rcases replayR_E ⟨s, l, es⟩ (orderP ⟨s, l, es⟩) l with ⟨r, h1, h2⟩ | ⟨h1, h2⟩
  · rw [h2]
    have : some r = some e := h1.symm.trans hp
    obtain rfl := Option.some.inj this
    simp only [if_true, rowsSame_refl]
  · exact absurd (h1.symm.trans hp) (by simp)
/-- Less entries: those of some transactions. -/
theorem play_filter {P : Int → Bool} (t : Int) (ht : P t = true) : ∀ (A : List Entry) (x : Serial), playE t (A.filter fun e => P e.txn) x = playE t A x
  | [], _ => rfl
  | e :: A, x => by
    rw [List.filter_cons]
    cases hP : P e.txn with
    | true => simp only [if_true, playE, play_filter t ht A]
    | false =>
      simp only [Bool.false_eq_true, if_false, playE]
      have : e.txn ≠ t := fun h => by rw [h, ht] at hP; cases hP
      rw [show (e.txn == t) = false from by simpa using this]
      exact play_filter t ht A x
theorem replay_filter {P : Int → Bool} (s : Schema) (es : List Entry) : ∀ (o : List Int) (l : List Row), (∀ t ∈ o, P t = true) → replayE s (es.filter fun e => P e.txn) o l = replayE s es o l
  | [], _, _ => rfl
  | t :: o, l, h => by
    unfold replayE
    rw [play_filter t (h t (by simp))]
    cases playE t es (beginS s l) with
    | none => rfl
    | some y => exact replay_filter s es o _ fun t ht => h t (by simp [ht])
theorem ord_filter {P : Int → Bool} (es : List Entry) (h : ∀ t ∈ ordE es, P t = true) : ordE (es.filter fun e => P e.txn) = ordE es := by
  unfold ordE
  rw [List.filter_filter]
  congr 1
  refine List.filter_congr fun e he => ?_
  cases hc : commits e with
  | false => rfl
  | true => rw [h e.txn (List.mem_map.2 ⟨e, List.mem_filter.2 ⟨he, hc⟩, rfl⟩)]; rfl
def inO (o : List Int) (t : Int) : Bool := mget false (o.foldl (fun m x => (x, true) :: m) []) t
theorem foldl_get : ∀ (o : List Int) (m : List (Int × Bool)) (t : Int), mget false (o.foldl (fun m x => (x, true) :: m) m) t = (decide (t ∈ o) || mget false m t)
  | [], m, t => by simp
  | x :: o, m, t => by
    rw [List.foldl_cons, foldl_get o]
    simp only [mget, List.mem_cons]
    by_cases h : x = t
    · subst h; simp
    · rw [decide_eq_false h]
      simp [show ¬ t = x from fun e => h e.symm]
theorem inO_eq (o : List Int) (t : Int) : inO o t = decide (t ∈ o) := by
  unfold inO
  rw [foldl_get]
  simp [mget]

/-! ### JudgeSerial -/
theorem mput_ok {m : List (Int × Bool)} {x : Int} (h1 : 1 ≤ x) (h2 : x ≤ 1073741824) (hl : m.length ≤ 100000) (b : Bool) : mput .i64 m x b = some ((x, b) :: m) := by
  unfold mput; rw [keyIn_small h1 h2, Bool.true_and, show Nat.ble m.length 1000000 = true from Nat.ble_eq_true_of_le (by omega)]
theorem mlook_ok {m : List (Int × Bool)} {x : Int} (h1 : 1 ≤ x) (h2 : x ≤ 1073741824) : mlook .i64 false m x = some (mget false m x) := by
  unfold mlook; rw [keyIn_small h1 h2]
structure Played (s : Schema) (l : List Row) (es : List Entry) (e : List Row) : Prop where
  small : SmallH ⟨s, l, es⟩
  vals : ∀ e ∈ es, i64 e.request.val
  txn : ∀ e ∈ es, 1 ≤ e.txn ∧ e.txn ≤ 100
  ok : ∀ e ∈ es, entOk s e = true
  pair : es.Pairwise fine
  len : es.length ≤ 156
  rep : replayE s es (ordE es) l = some e
  right : rightH ⟨s, l, es⟩ = true
theorem played_ok {s : Schema} (hs : SchIn s) (ht : s.tables.length ≤ 1000) {l : List Row} (hl : l.length ≤ 1000) {T : List law27_Turn} (hT : ∀ t ∈ T, TurnIn t) (hr : right s = true) (hlo : listOk s l = true) :
    Played s l (playedP s 0 (T.take 12) l).1 (playedP s 0 (T.take 12) l).2 := by
  have hT' : ∀ t ∈ T.take 12, TurnIn t := fun t h => hT t (List.mem_of_mem_take h)
  have h12 : (T.take 12).length ≤ 12 := by simp; omega
  have H := hist hs hr (T.take 12) 0 l hT' (by omega) hlo
  have R := rep hs hr (T.take 12) 0 l [] hT' (by omega) hlo (by simp)
  have hlen := played_len s (T.take 12) 0 l
  have txn : ∀ e ∈ (playedP s 0 (T.take 12) l).1, 1 ≤ e.txn ∧ e.txn ≤ 100 := fun e he => by have := H.txn e he; omega
  have ok : ∀ e ∈ (playedP s 0 (T.take 12) l).1, entOk s e = true := fun e he => ent_ok (txn e he) (H.ok e he)
  refine ⟨⟨ht, hl, Nat.le_trans hlen (by omega), fun e he => ?_⟩, H.vals, txn, ok, H.pair, by omega, R, right_of hr hlo (by omega) ok H.pair⟩
  have := (listOk_iff.1 (H.ok e he).2).2
  omega
theorem ord_in {es : List Entry} {P : Int → Prop} (h : ∀ e ∈ es, P e.txn) : ∀ t ∈ ordE es, P t := fun t ht => by
  obtain ⟨e, he, rfl⟩ := List.mem_map.1 ht
  exact h e (List.mem_filter.1 he).1
theorem ord_len (es : List Entry) : (ordE es).length ≤ es.length := by
  unfold ordE
  rw [List.length_map]
  exact List.length_filter_le _ _
theorem turns_in {T : List law27_Turn} (h : okT tab 9 (.sl (.st 12)) T) : ∀ t ∈ T, TurnIn t := fun t ht q hq => ((h.1 t ht).1.1 q hq).2.2.2.2.2.1
theorem plainJudgeSerial (s : Schema) (l : List Row) (T : List law27_Turn) (h1 : okT tab 9 (.st 1) s) (h2 : okT tab 9 (.sl (.st 3)) l) (h3 : okT tab 9 (.sl (.st 12)) T) : ∃ n, law27_JudgeSerial n s l T = some true := by
  refine ⟨4000, ?_⟩
  have hn : 3000 ≤ 4000 := by omega
  have hs : SchIn s := sch_in h1
  have hT := turns_in h3
  unfold law27_JudgeSerial
  simp only [wakes27, overRows_eq 4000 (by omega), Option.bind_some, jn, Bool.not_true, cond_false]
  by_cases ht : (s.tables.length : Int) > 20
  · rw [decide_eq_true ht]; rfl
  · rw [decide_eq_false ht]
    simp only [cond_false]
    cases ho : overRowsP l with
    | true => rfl
    | false =>
      have hl : l.length ≤ 1000 := by
        unfold overRowsP at ho
        simp only [Bool.or_eq_false_iff, decide_eq_false_iff_not] at ho
        omega
      simp only [cond_false, played_eq 4000 hn hs (by omega : s.tables.length ≤ 1000) l hl T hT, Option.bind_some]
      cases hr : right s with
      | false => rfl
      | true =>
        cases hlo : listOk s l with
        | false => rfl
        | true =>
          have P := played_ok hs (by omega : s.tables.length ≤ 1000) hl hT hr hlo
          generalize (playedP s 0 (T.take 12) l).1 = es at P
          generalize (playedP s 0 (T.take 12) l).2 = e at P
          simp only [Bool.and_self, if_true, Bool.not_true, cond_false, judge_eq 4000 hn P.small hs P.vals, judge_ok P.right P.rep, Option.bind_some, show ((0 : Int) != 0) = false from rfl, jorder_eq 4000 hn ⟨s, l, es⟩ P.small, P.right]
          have hol : (ordE es).length ≤ 156 := Nat.le_trans (ord_len es) P.len
          have hoi : ∀ t ∈ ordE es, 1 ≤ t ∧ t ≤ 100 := ord_in P.txn
          show law27_JudgeSerial_l1 4000 4000 (e, ((ordE es).length : Int), ((0 : Nat) : Int), ⟨s, l, es⟩, ([] : List (Int × Bool)), ordE es, ()) = some true
          unfold law27_JudgeSerial_l1
          refine (run_loopI (ordE es) (fun (i : Nat) (m : List (Int × Bool)) => (e, ((ordE es).length : Int), (i : Int), History.mk s l es, m, ordE es, ())) (fun _ t m => .inr ((t, true) :: m)) (fun m => law27_JudgeSerial_l2 4000 4000 (e, es, (es.length : Int), 0, m, s.tables, l, ([] : List Entry), ())) (fun i m => m.length ≤ i) (fun i m t m' _ hm he => ?_) (fun r i m t hk hi hm => ?_) (fun r m _ => ?_) 4000 0 [] (Nat.zero_le _) (by omega) (Nat.le_refl _)).trans ?_
          · simp only [Sum.inr.injEq] at he; subst he; simp only [List.length_cons]; omega
          · obtain ⟨q1, q2⟩ := hoi t (List.mem_of_getElem? hk)
            simp only [lt_dec hi, cond_true, idx_nat, hk, Option.bind_some, mput_ok (m := m) q1 (by omega) (by omega) true, wrap_succ (show i < 4611686018427387904 by omega)]
          · simp only [ge_dec (Nat.lt_irrefl _), cond_false]
          · rw [List.drop_zero]
            have key : ∀ (o : List Int) (i : Nat) (m : List (Int × Bool)) (fin : List (Int × Bool) → Option Bool), runL (fun _ t m => (.inr ((t, true) :: m) : Option Bool ⊕ List (Int × Bool))) fin o i m = fin (o.foldl (fun m x => (x, true) :: m) m) := by
              intro o
              induction o with
              | nil => intro i m fin; rfl
              | cons t o ih => intro i m fin; simp only [runL, List.foldl_cons]; exact ih _ _ _
            rw [key]
            show law27_JudgeSerial_l2 4000 4000 (e, es, (es.length : Int), ((0 : Nat) : Int), (ordE es).foldl (fun m x => (x, true) :: m) [], s.tables, l, ([] : List Entry), ()) = some true
            generalize hM : (ordE es).foldl (fun m x => (x, true) :: m) [] = M
            have hget : ∀ t, mget false M t = decide (t ∈ ordE es) := fun t => by rw [← hM]; exact inO_eq _ _
            unfold law27_JudgeSerial_l2
            have hlen := P.len
            refine (run_loopI es (fun (i : Nat) (z : List Entry) => (e, es, (es.length : Int), (i : Int), M, s.tables, l, z, ())) (fun _ x z => .inr (if decide (x.txn ∈ ordE es) then z ++ [x] else z)) (fun z => (judge_Judge 4000 ⟨s, l, z⟩ e).bind fun y37 => cond (y37.1 == 0) (some (y37.2 == 0)) (some false)) (fun i z => z.length ≤ i) (fun i z x z' _ hz he => ?_) (fun r i z x hk hi hz => ?_) (fun r z _ => ?_) 4000 0 [] (Nat.zero_le _) (by omega) (Nat.le_refl _)).trans ?_
            · simp only [Sum.inr.injEq] at he; subst he
              split
              · simp; omega
              · omega
            · obtain ⟨q1, q2⟩ := P.txn x (List.mem_of_getElem? hk)
              simp only [lt_dec hi, cond_true, idx_nat, hk, Option.bind_some, mlook_ok (m := M) q1 (show x.txn ≤ 1073741824 by omega), hget, jn, law27_JudgeSerial_j3, app_lt (l := z) (m := [x]) (b := 120) (by simp; omega) (by omega), wrap_succ (show i < 4611686018427387904 by omega)]
              cases decide (x.txn ∈ ordE es) <;> rfl
            · simp only [ge_dec (Nat.lt_irrefl _), cond_false, jn]
            · rw [List.drop_zero, runL_filter, List.nil_append]
              have hsub : ∀ x ∈ es.filter (fun x => decide (x.txn ∈ ordE es)), x ∈ es := fun x hx => (List.mem_filter.1 hx).1
              have hll : (es.filter (fun x => decide (x.txn ∈ ordE es))).length ≤ es.length := List.length_filter_le _ _
              have sm : SmallH ⟨s, l, es.filter (fun x => decide (x.txn ∈ ordE es))⟩ := ⟨P.small.tables, P.small.begun, Nat.le_trans hll (by omega), fun x hx => P.small.each x (hsub x hx)⟩
              have hrt : rightH ⟨s, l, es.filter (fun x => decide (x.txn ∈ ordE es))⟩ = true := right_of hr hlo (by omega) (fun x hx => P.ok x (hsub x hx)) (P.pair.sublist List.filter_sublist)
              have ho2 := ord_filter (P := fun t => decide (t ∈ ordE es)) es (fun t ht => by simpa using ht)
              have hrp : replayE s (es.filter (fun x => decide (x.txn ∈ ordE es))) (ordE (es.filter (fun x => decide (x.txn ∈ ordE es)))) l = some e := by
                rw [ho2, replay_filter (P := fun t => decide (t ∈ ordE es)) s es _ _ (fun t ht => by simpa using ht)]
                exact P.rep
              rw [judge_eq 4000 hn sm hs (fun x hx => P.vals x (hsub x hx)), judge_ok hrt hrp]
              rfl
end Go.Proofs.Ytegnflodgnfffaa
