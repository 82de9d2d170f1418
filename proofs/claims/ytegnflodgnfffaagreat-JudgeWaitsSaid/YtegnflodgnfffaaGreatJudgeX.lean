/- Layer 8 (locks): which locks may be: both answers. -/
import Derived.Test.YtegnflodgnfffaaGreatLockB
namespace Go.Proofs.YtegnflodgnfffaaGreat
open Go.Bur
set_option linter.unusedSimpArgs false
set_option linter.unusedVariables false
set_option maxRecDepth 100000

def ltQ (a b : Queue) : Bool := ltR a.res b.res
def qB (q : Queue) : Bool := resB q.res && holdersB q.res q.holders && waitersB q.res q.holders q.waiters
def wT (qs : List Queue) : List Wait := qs.flatMap (·.waiters)
/-- A queue at its place. -/
def qP (qs : List Queue) (i : Nat) (q : Queue) : Bool := resB q.res && prevOk ltQ q (prevO qs i) && holdersB q.res q.holders && (waitersB q.res q.holders q.waiters && q.waiters.all fun w => !mhas (metW [] (wT (qs.take i))) w.txn)
def lockB (qs : List Queue) : Bool := decide (qs.length ≤ 500) && allFrom (qP qs) 0 qs
def SmallL (qs : List Queue) : Prop := ∀ q ∈ qs, q.holders.length ≤ 1000 ∧ q.waiters.length ≤ 1000
theorem wT_len : ∀ {qs : List Queue}, SmallL qs → (wT qs).length ≤ 1000 * qs.length
  | [], _ => by simp [wT]
  | q :: t, h => by
    have h1 := (h q (List.mem_cons_self ..)).2
    have h2 := wT_len (qs := t) fun x hx => h x (List.mem_cons_of_mem _ hx)
    show (q.waiters ++ wT t).length ≤ _
    simp only [List.length_append, List.length_cons]; omega
theorem wT_snoc (qs : List Queue) (q : Queue) : metW [] (wT (qs ++ [q])) = metW (metW [] (wT qs)) q.waiters := by
  simp [wT, metW, List.foldl_append]
theorem met_tr (ws : List Wait) : AllTr (metW [] ws) := metW_all fun p hp => by cases hp
theorem met_len (ws : List Wait) : (metW [] ws).length = ws.length := by rw [metW_len]; simp

set_option maxHeartbeats 2000000 in
theorem check_eq (n : Nat) (hn : 1003 ≤ n) (o : Locks) (hs : SmallL o.queues) : locks_Check n o = some (if lockB o.queues then 0 else 180) := by
  unfold locks_Check lockB
  by_cases hl : o.queues.length ≤ 500
  · rw [decide_eq_false (show ¬ ((o.queues.length : Int) > 500) by omega), decide_eq_true hl]
    simp only [cond_false, Bool.true_and]
    have key : ∀ (t pre : List Queue) (k : Nat), o.queues = pre ++ t → t.length < k → locks_Check_l1 n k (o.queues, (o.queues.length : Int), (pre.length : Int), o, metW [] (wT pre), ()) = some (if allFrom (qP o.queues) pre.length t then 0 else 180) := by
      intro t
      induction t with
      | nil =>
        intro pre k he hk
        obtain ⟨k, rfl⟩ : ∃ k', k = k' + 1 := ⟨k - 1, by omega⟩
        unfold locks_Check_l1
        rw [loopF]
        simp only []
        rw [decide_eq_false (by rw [he]; simp)]; rfl
      | cons q t ih =>
        intro pre k he hk
        obtain ⟨k, rfl⟩ : ∃ k', k = k' + 1 := ⟨k - 1, by omega⟩
        have hlen : o.queues.length = pre.length + (t.length + 1) := by rw [he]; simp
        have hx : o.queues[pre.length]? = some q := by rw [he]; simp
        have htk : o.queues.take pre.length = pre := by rw [he]; simp
        have hq := hs q (List.mem_of_getElem? hx)
        have hpre : SmallL pre := fun x hx => hs x (by rw [he]; exact List.mem_append_left _ hx)
        have hwl := wT_len hpre
        obtain ⟨m', e1, e2⟩ := waiters_eq n hn q hq.1 hq.2 _ (met_tr (wT pre)) (by rw [met_len]; omega)
        obtain ⟨r, hr⟩ : ∃ r, r = locks_Check_l1 n k := ⟨_, rfl⟩
        have ih := ih (pre ++ [q]) k (by rw [he]; simp) (by simp at hk; omega)
        rw [← hr, wT_snoc, List.length_append, List.length_singleton] at ih
        unfold locks_Check_l1 at hr ⊢
        rw [loopF, ← hr]
        clear hr
        simp only []
        rw [decide_eq_true (by omega)]
        have hqp : qP o.queues pre.length q = (resB q.res && prevOk ltQ q (prevO o.queues pre.length) && holdersB q.res q.holders && (waitersB q.res q.holders q.waiters && q.waiters.all fun w => !mhas (metW [] (wT pre)) w.txn)) := by unfold qP; rw [htk]
        simp only [cond_true, idx_nat, hx, Option.bind_some, locked_eq, holders_eq n hn q hq.1, e1, allFrom, hqp, wrap_succ (show pre.length < 4611686018427387904 by omega)]
        clear hqp e1 htk
        generalize (waitersB q.res q.holders q.waiters && q.waiters.all fun w => !mhas (metW [] (wT pre)) w.txn) = wb at e2 ⊢
        have fin : r (o.queues, (o.queues.length : Int), ((pre.length + 1 : Nat) : Int), o, m', ()) = some (if wb && allFrom (qP o.queues) (pre.length + 1) t then 0 else 180) ∨ wb = false := by
          cases wb with
          | false => exact .inr rfl
          | true => left; rw [e2 rfl, ih]; rfl
        have prev : (decide ((pre.length : Int) > 0) = false ∧ prevOk ltQ q (prevO o.queues pre.length) = true) ∨ (decide ((pre.length : Int) > 0) = true ∧ ∃ y, idx o.queues (IntKind.wrap .i64 ((pre.length : Int) - 1)) = some y ∧ prevOk ltQ q (prevO o.queues pre.length) = ltR y.res q.res) := by
          have hlt : pre.length < o.queues.length := by omega
          generalize pre.length = i at hlt
          cases i with
          | zero => exact .inl ⟨rfl, rfl⟩
          | succ j => exact .inr ⟨decide_eq_true (by omega), o.queues[j], by rw [wrap_pred (by omega), idx_nat, get_some], by simp only [prevO, prevOk, get_some (show j < o.queues.length by omega)]; rfl⟩
        cases resB q.res with
        | false => rfl
        | true =>
          rcases prev with ⟨p1, p2⟩ | ⟨p1, y, p2, p3⟩
          · simp only [p1, p2, Bool.not_true, cond_false, Bool.true_and]
            cases holdersB q.res q.holders with
            | false => rfl
            | true =>
              cases wb with
              | false => rfl
              | true =>
                rcases fin with fin | fin
                · exact fin
                · cases fin
          · simp only [p1, p2, p3, Bool.not_true, cond_false, cond_true, Bool.true_and, Option.bind_some, compareR n (by omega), cR_ge]
            cases ltR y.res q.res with
            | false => rfl
            | true =>
              simp only [Bool.not_true, cond_false, Bool.true_and]
              cases holdersB q.res q.holders with
              | false => rfl
              | true =>
                cases wb with
                | false => rfl
                | true =>
                  rcases fin with fin | fin
                  · exact fin
                  · cases fin
    exact key o.queues [] n rfl (by omega)
  · rw [decide_eq_true (show (o.queues.length : Int) > 500 by omega), decide_eq_false hl]; rfl

/-! ### The document -/
theorem allFrom_and {α : Type} {p q : Nat → α → Bool} : ∀ {l : List α} {k : Nat}, allFrom (fun i x => p i x && q i x) k l = (allFrom p k l && allFrom q k l)
  | [], _ => rfl
  | x :: t, k => by
    simp only [allFrom, allFrom_and (l := t)]
    cases p k x <;> cases q k x <;> cases allFrom p (k + 1) t <;> cases allFrom q (k + 1) t <;> rfl
theorem nodup_from {ws : List Wait} : allFrom (fun i (w : Wait) => !decide (w.txn ∈ (ws.take i).map (·.txn))) 0 ws = decide ((ws.map (·.txn)).Nodup) := by
  rw [Bool.eq_iff_iff, allFrom_iff, decide_eq_true_iff]
  show _ ↔ (ws.map (·.txn)).Pairwise (· ≠ ·)
  rw [List.pairwise_map, pair_iff]
  simp only [Nat.zero_add, Bool.not_eq_true', decide_eq_false_iff_not]
  constructor
  · intro h i x hx y hy e
    exact h i x hx (List.mem_map.2 ⟨y, hy, e⟩)
  · intro h i x hx hm
    obtain ⟨y, hy, e⟩ := List.mem_map.1 hm
    exact h i x hx y hy e
set_option maxHeartbeats 1000000 in
theorem rq2_eq (n : Nat) (hn : 1003 ≤ n) (q : Queue) (hq : q.holders.length ≤ 1000) (hw : q.waiters.length ≤ 1000) :
    ref08_RightQueue_l2 n n (q.waiters, (q.waiters.length : Int), ((0 : Nat) : Int), q, ()) = some (waitersB q.res q.holders q.waiters) := by
  unfold ref08_RightQueue_l2
  rw [run_loop q.waiters (fun i (_ : Unit) => (q.waiters, (q.waiters.length : Int), (i : Int), q, ())) (fun i w _ => if stepA (wS q.res q.holders) wR q.waiters i w && !decide (w.txn ∈ (q.waiters.take i).map (·.txn)) then .inr () else .inl (some false)) (fun _ => some (firstB q.holders q.waiters)) ?_ ?_ n 0 () (Nat.zero_le _) (by omega)]
  · rw [List.drop_zero, runL_allFrom, allFrom_and (p := stepA (wS q.res q.holders) wR q.waiters), allFrom_chain, nodup_from]
    unfold waitersB
    cases chainB (wS q.res q.holders) wR none q.waiters <;> cases decide ((q.waiters.map (·.txn)).Nodup) <;> rfl
  · intro r i s w hx hi
    have h3 : ∀ (hr : r = r), ref08_RightQueue_l3 n r n (q.waiters, (q.waiters.length : Int), (i : Int), q.waiters.take i, ((q.waiters.take i).length : Int), ((0 : Nat) : Int), q, w, ()) = if !decide (w.txn ∈ (q.waiters.take i).map (·.txn)) then r (q.waiters, (q.waiters.length : Int), ((i + 1 : Nat) : Int), q, ()) else some false := by
      intro _
      unfold ref08_RightQueue_l3
      have htl : (q.waiters.take i).length ≤ 1000 := by rw [List.length_take]; omega
      rw [run_loop (q.waiters.take i) (fun j (_ : Unit) => (q.waiters, (q.waiters.length : Int), (i : Int), q.waiters.take i, ((q.waiters.take i).length : Int), (j : Int), q, w, ())) (fun _ x _ => if !decide (x.txn = w.txn) then .inr () else .inl (some false)) (fun _ => r (q.waiters, (q.waiters.length : Int), ((i + 1 : Nat) : Int), q, ())) ?_ ?_ n 0 () (Nat.zero_le _) (by omega)]
      · rw [List.drop_zero, runL_all]
        congr 1
        rw [eq_iff_iff, List.all_eq_true, Bool.not_eq_true', decide_eq_false_iff_not, List.mem_map]
        constructor
        · rintro h ⟨y, hy, e⟩
          have := h y hy
          rw [decide_eq_true e] at this; cases this
        · intro h y hy
          rw [Bool.not_eq_true', decide_eq_false_iff_not]
          exact fun e => h ⟨y, hy, e⟩
      · intro r2 j s y hy hj
        simp only [lt_dec hj, cond_true, idx_nat, hy, Option.bind_some, ibeq, wrap_succ (show j < 4611686018427387904 by omega)]
        cases decide (y.txn = w.txn) <;> rfl
      · intro r2 s
        simp only [ge_dec (Nat.lt_irrefl _), cond_false, wrap_succ (show i < 4611686018427387904 by omega)]
    have h3 := h3 rfl
    have hsub : sub q.waiters 0 (i : Int) = some (q.waiters.take i) := by
      have := sub_ok (l := q.waiters) (a := 0) (b := i) (Nat.zero_le _) (by omega)
      simpa using this
    simp only [lt_dec hi, cond_true, idx_nat, hx, Option.bind_some, rtxn_eq, jn, rmode_eq, rheld_eq n hn q hq, rcovers_eq, ibeq, ibne, hsub]
    have h3 : ref08_RightQueue_l3 n r n (q.waiters, (q.waiters.length : Int), (i : Int), q.waiters.take i, ((q.waiters.take i).length : Int), 0, q, w, ()) = _ := h3
    simp only [h3]
    unfold stepA wS
    generalize decide (w.txn ∈ (q.waiters.take i).map (·.txn)) = du
    generalize r (q.waiters, (q.waiters.length : Int), ((i + 1 : Nat) : Int), q, ()) = rr
    have prev : (decide ((i : Int) > 0) = false ∧ prevOk wR w (prevO q.waiters i) = true) ∨ (decide ((i : Int) > 0) = true ∧ ∃ y, idx q.waiters (IntKind.wrap .i64 ((i : Int) - 1)) = some y ∧ prevOk wR w (prevO q.waiters i) = !(!decide (w.held = 0) && decide (y.held = 0))) := by
      cases i with
      | zero => exact .inl ⟨rfl, rfl⟩
      | succ j => exact .inr ⟨decide_eq_true (by omega), q.waiters[j], by rw [wrap_pred (by omega), idx_nat, get_some], by simp only [prevO, prevOk, get_some (show j < q.waiters.length by omega)]; rfl⟩
    generalize txnB w.txn = b1
    generalize modeB q.res w.mode = b2
    generalize decide (w.held = heldL q.holders w.txn) = b3
    generalize coversB w.held w.mode = b4
    generalize coversB w.mode w.held = b5
    rcases prev with ⟨p1, p2⟩ | ⟨p1, y, p2, p3⟩
    · simp only [p1, p2]
      cases b1 with
      | false => rfl
      | true =>
      cases b2 with
      | false => rfl
      | true =>
      cases b3 with
      | false => rfl
      | true =>
      cases b4 with
      | true => rfl
      | false =>
      cases b5 with
      | false => rfl
      | true => cases du <;> rfl
    · simp only [p1, p2, p3, Option.bind_some]
      generalize decide (w.held = 0) = b6
      generalize decide (y.held = 0) = b7
      cases b1 with
      | false => rfl
      | true =>
      cases b2 with
      | false => rfl
      | true =>
      cases b3 with
      | false => rfl
      | true =>
      cases b4 with
      | true => rfl
      | false =>
      cases b5 with
      | false => rfl
      | true => cases b6 <;> cases b7 <;> cases du <;> rfl
  · intro r s
    simp only [ge_dec (Nat.lt_irrefl _), cond_false, jn, ibeq]
    cases hws : q.waiters with
    | nil => rfl
    | cons w t =>
      have h0 : idx q.waiters 0 = some w := by rw [show (0 : Int) = ((0 : Nat) : Int) from rfl, idx_nat, hws]; rfl
      rw [← hws]
      simp only [h0, Option.bind_some, rgoesL_eq n hn q hq]
      rw [hws]
      rw [decide_eq_false (by simp; omega)]
      rfl
theorem rq_eq (n : Nat) (hn : 1003 ≤ n) (q : Queue) (hq : q.holders.length ≤ 1000) (hw : q.waiters.length ≤ 1000) : ref08_RightQueue n q = some (qB q) := by
  unfold ref08_RightQueue
  have h1 : ref08_RightQueue_l1 n n (q.holders, (q.holders.length : Int), 0, q, ()) = some (chainB (hB q.res q.holders) ltH none q.holders && waitersB q.res q.holders q.waiters) := by
    show ref08_RightQueue_l1 n n (q.holders, (q.holders.length : Int), ((0 : Nat) : Int), q, ()) = _
    unfold ref08_RightQueue_l1
    rw [run_loop q.holders (fun i (_ : Unit) => (q.holders, (q.holders.length : Int), (i : Int), q, ())) (fun i h _ => if stepA (hB q.res q.holders) ltH q.holders i h then .inr () else .inl (some false)) (fun _ => some (waitersB q.res q.holders q.waiters)) ?_ ?_ n 0 () (Nat.zero_le _) (by omega)]
    · rw [List.drop_zero, runL_allFrom, allFrom_chain]
      cases chainB (hB q.res q.holders) ltH none q.holders <;> rfl
    · intro r i s h hx hi
      simp only [lt_dec hi, cond_true, idx_nat, hx, Option.bind_some, rtxn_eq, jn, rmode_eq, rgoesL_eq n hn q hq, wrap_succ (show i < 4611686018427387904 by omega)]
      unfold stepA hB
      have prev : (decide ((i : Int) > 0) = false ∧ prevOk ltH h (prevO q.holders i) = true) ∨ (decide ((i : Int) > 0) = true ∧ ∃ y, idx q.holders (IntKind.wrap .i64 ((i : Int) - 1)) = some y ∧ decide (y.txn ≥ h.txn) = !prevOk ltH h (prevO q.holders i)) := by
        cases i with
        | zero => exact .inl ⟨rfl, rfl⟩
        | succ j =>
          refine .inr ⟨decide_eq_true (by omega), q.holders[j], by rw [wrap_pred (by omega), idx_nat, get_some], ?_⟩
          simp only [prevO, prevOk, get_some (show j < q.holders.length by omega)]
          unfold ltH
          by_cases hlt : q.holders[j].txn < h.txn
          · rw [decide_eq_true hlt, decide_eq_false (by omega)]; rfl
          · rw [decide_eq_false hlt, decide_eq_true (by omega)]; rfl
      rcases prev with ⟨p1, p2⟩ | ⟨p1, y, p2, p3⟩
      · simp only [p1, p2]
        cases txnB h.txn <;> cases modeB q.res h.mode <;> cases goesL q.holders h.txn h.mode <;> rfl
      · simp only [p1, p2, p3, Option.bind_some]
        cases txnB h.txn <;> cases modeB q.res h.mode <;> cases goesL q.holders h.txn h.mode <;> cases prevOk ltH h (prevO q.holders i) <;> rfl
    · intro r s
      simp only [ge_dec (Nat.lt_irrefl _), cond_false]
      exact rq2_eq n hn q hq hw
  simp only [rres_eq, Option.bind_some, jn, ibeq, h1]
  unfold qB holdersB
  cases resB q.res with
  | false => rfl
  | true =>
    cases q.holders with
    | nil => rfl
    | cons h t =>
      rw [decide_eq_false (by simp; omega)]
      rfl
def IdIn (qs : List Queue) : Prop := ∀ q ∈ qs, 0 ≤ q.res.id ∧ q.res.id < 65536
theorem wS_txn {r : Res} {hs : List Hold} {ws : List Wait} (h : waitersB r hs ws = true) : ∀ w ∈ ws, txnB w.txn = true := fun w hw => by
  unfold waitersB at h
  simp only [Bool.and_eq_true, chain_iff wR_trans] at h
  have := h.1.1.1 w hw
  unfold wS at this
  simp only [Bool.and_eq_true] at this
  exact this.1.1.1.1
/-- The document's walk through who waits. -/
theorem rmet_eq (n : Nat) (r : (List Queue) × Int × Int × Locks × (List (Int × Bool)) × Unit → Option Bool) (qs : List Queue) (L i : Int) (o : Locks) (ws : List Wait) (hw : ws.length ≤ 1000) (ht : ∀ w ∈ ws, txnB w.txn = true) (hnd : (ws.map (·.txn)).Nodup) (m : List (Int × Bool)) (hm : AllTr m) (hml : m.length ≤ 900000) (hn : ws.length < n) :
    ref08_Right_l2 n r n (qs, L, i, ws, (ws.length : Int), 0, o, m, ()) = if ws.all (fun w => !mhas m w.txn) then r (qs, L, IntKind.wrap .i64 (i + 1), o, metW m ws, ()) else some false := by
  have key : ∀ (t pre : List Wait) (k : Nat), ws = pre ++ t → t.length < k → ref08_Right_l2 n r k (qs, L, i, ws, (ws.length : Int), (pre.length : Int), o, metW m pre, ()) = if t.all (fun w => !mhas m w.txn) then r (qs, L, IntKind.wrap .i64 (i + 1), o, metW m ws, ()) else some false := by
    intro t
    induction t with
    | nil =>
      intro pre k he hk
      obtain ⟨k, rfl⟩ : ∃ k', k = k' + 1 := ⟨k - 1, by omega⟩
      rw [List.append_nil] at he
      unfold ref08_Right_l2
      rw [loopF]
      simp only []
      rw [decide_eq_false (by rw [he]; simp), he]; rfl
    | cons w t ih =>
      intro pre k he hk
      obtain ⟨k, rfl⟩ : ∃ k', k = k' + 1 := ⟨k - 1, by omega⟩
      have hlen : ws.length = pre.length + (t.length + 1) := by rw [he]; simp
      have hx : ws[pre.length]? = some w := by rw [he]; simp
      have hk1 := key_txn (ht w (List.mem_of_getElem? hx))
      have ih := ih (pre ++ [w]) k (by rw [he]; simp) (by simp at hk; omega)
      have e3 : metW m (pre ++ [w]) = (w.txn, true) :: metW m pre := by simp [metW]
      rw [e3, List.length_append, List.length_singleton] at ih
      have hnm : w.txn ∉ pre.map (·.txn) := by
        intro hmem
        rw [he, List.map_append, List.nodup_append] at hnd
        exact hnd.2.2 _ hmem _ (by simp) rfl
      have hml2 : (metW m pre).length ≤ 1000000 := by rw [metW_len]; omega
      obtain ⟨r2, hr⟩ : ∃ r2, r2 = ref08_Right_l2 n r k := ⟨_, rfl⟩
      rw [← hr] at ih
      unfold ref08_Right_l2 at hr ⊢
      rw [loopF, ← hr]
      clear hr
      simp only []
      rw [decide_eq_true (by omega)]
      simp only [cond_true, idx_nat, hx, Option.bind_some, look_tr (metW_all hm (ws := pre)) hk1, mhas_metW, decide_eq_false hnm, Bool.or_false, List.all_cons, put_tr hk1 hml2, wrap_succ (show pre.length < 4611686018427387904 by omega), ih]
      rcases Bool.eq_false_or_eq_true (mhas m w.txn) with h | h <;> simp only [h, cond_true, cond_false, Bool.not_true, Bool.not_false, Bool.false_and, Bool.true_and, Bool.false_eq_true, if_false]
  exact key ws [] n rfl hn
set_option maxHeartbeats 1000000 in
theorem rright_eq (n : Nat) (hn : 1003 ≤ n) (o : Locks) (hs : SmallL o.queues) (hi : IdIn o.queues) : ref08_Right n o = some (lockB o.queues) := by
  unfold ref08_Right lockB
  by_cases hl : o.queues.length ≤ 500
  · rw [decide_eq_false (show ¬ ((o.queues.length : Int) > 500) by omega), decide_eq_true hl]
    simp only [cond_false, Bool.true_and]
    have key : ∀ (t pre : List Queue) (k : Nat), o.queues = pre ++ t → (∀ q ∈ pre, resB q.res = true) → t.length < k → ref08_Right_l1 n k (o.queues, (o.queues.length : Int), (pre.length : Int), o, metW [] (wT pre), ()) = some (allFrom (qP o.queues) pre.length t) := by
      intro t
      induction t with
      | nil =>
        intro pre k he _ hk
        obtain ⟨k, rfl⟩ : ∃ k', k = k' + 1 := ⟨k - 1, by omega⟩
        unfold ref08_Right_l1
        rw [loopF]
        simp only []
        rw [decide_eq_false (by rw [he]; simp)]; rfl
      | cons q t ih =>
        intro pre k he hres hk
        obtain ⟨k, rfl⟩ : ∃ k', k = k' + 1 := ⟨k - 1, by omega⟩
        have hlen : o.queues.length = pre.length + (t.length + 1) := by rw [he]; simp
        have hx : o.queues[pre.length]? = some q := by rw [he]; simp
        have htk : o.queues.take pre.length = pre := by rw [he]; simp
        have hqm := List.mem_of_getElem? hx
        have hq := hs q hqm
        have hpre : SmallL pre := fun x hx => hs x (by rw [he]; exact List.mem_append_left _ hx)
        have hwl := wT_len hpre
        obtain ⟨r, hr⟩ : ∃ r, r = ref08_Right_l1 n k := ⟨_, rfl⟩
        have ih := fun h => ih (pre ++ [q]) k (by rw [he]; simp) h (by simp at hk; omega)
        rw [← hr, wT_snoc, List.length_append, List.length_singleton] at ih
        unfold ref08_Right_l1 at hr ⊢
        rw [loopF, ← hr]
        clear hr
        simp only []
        rw [decide_eq_true (by omega)]
        have hqp : qP o.queues pre.length q = (resB q.res && prevOk ltQ q (prevO o.queues pre.length) && holdersB q.res q.holders && (waitersB q.res q.holders q.waiters && q.waiters.all fun w => !mhas (metW [] (wT pre)) w.txn)) := by unfold qP; rw [htk]
        simp only [cond_true, idx_nat, hx, Option.bind_some, rq_eq n hn q hq.1 hq.2, allFrom, hqp, jn]
        cases hqb : qB q with
        | false =>
          have : (resB q.res && prevOk ltQ q (prevO o.queues pre.length) && holdersB q.res q.holders && (waitersB q.res q.holders q.waiters && q.waiters.all fun w => !mhas (metW [] (wT pre)) w.txn)) = false := by
            unfold qB at hqb
            revert hqb
            cases resB q.res <;> cases holdersB q.res q.holders <;> cases waitersB q.res q.holders q.waiters <;> cases prevOk ltQ q (prevO o.queues pre.length) <;> simp
          rw [this]; rfl
        | true =>
          unfold qB at hqb
          simp only [Bool.and_eq_true] at hqb
          obtain ⟨⟨b1, b2⟩, b3⟩ := hqb
          have hnd : (q.waiters.map (·.txn)).Nodup := by
            unfold waitersB at b3
            simp only [Bool.and_eq_true, decide_eq_true_iff] at b3
            exact b3.1.2
          have hmet := rmet_eq n r o.queues (o.queues.length : Int) (pre.length : Int) o q.waiters hq.2 (wS_txn b3) hnd _ (met_tr (wT pre)) (by rw [met_len]; omega) (by omega)
          rw [wrap_succ (show pre.length < 4611686018427387904 by omega), ih fun x hx => (List.mem_append.1 hx).elim (hres x) fun h => by rw [List.mem_singleton.1 h]; exact b1] at hmet
          have prev : (decide ((pre.length : Int) > 0) = false ∧ prevOk ltQ q (prevO o.queues pre.length) = true) ∨ (decide ((pre.length : Int) > 0) = true ∧ ∃ y, idx o.queues (IntKind.wrap .i64 ((pre.length : Int) - 1)) = some y ∧ y ∈ pre ∧ prevOk ltQ q (prevO o.queues pre.length) = ltR y.res q.res) := by
            have hmem : ∀ j, (hj : j < o.queues.length) → j < pre.length → o.queues[j] ∈ pre := fun j hj h => by
              have : o.queues[j]? = pre[j]? := by rw [he, List.getElem?_append_left h]
              rw [get_some hj, get_some h] at this
              rw [Option.some.inj this]; exact List.getElem_mem h
            have hlt : pre.length < o.queues.length := by omega
            generalize pre.length = i at hlt hmem
            cases i with
            | zero => exact .inl ⟨rfl, rfl⟩
            | succ j => exact .inr ⟨decide_eq_true (by omega), o.queues[j], by rw [wrap_pred (by omega), idx_nat, get_some], hmem j (by omega) (by omega), by simp only [prevO, prevOk, get_some (show j < o.queues.length by omega)]; rfl⟩
          simp only [Bool.not_true, cond_false, b1, b2, b3, Bool.true_and, Bool.and_true]
          rcases prev with ⟨p1, p2⟩ | ⟨p1, y, p2, p4, p3⟩
          · simp only [p1, p2, cond_false, hmet, Bool.true_and]
            cases q.waiters.all fun w => !mhas (metW [] (wT pre)) w.txn <;> rfl
          · simp only [p1, p2, p3, cond_true, Option.bind_some, order_eq n _ (hres y p4) (hi y (by rw [he]; exact List.mem_append_left _ p4)), order_eq n _ b1 (hi q hqm), ord_ge (hres y p4) b1 (hi y (by rw [he]; exact List.mem_append_left _ p4)) (hi q hqm), hmet]
            cases ltR y.res q.res with
            | false => rfl
            | true =>
              simp only [Bool.not_true, cond_false, Bool.true_and]
              cases q.waiters.all fun w => !mhas (metW [] (wT pre)) w.txn <;> rfl
    exact key o.queues [] n rfl nofun (by omega)
  · rw [decide_eq_true (show (o.queues.length : Int) > 500 by omega), decide_eq_false hl]; rfl
end Go.Proofs.YtegnflodgnfffaaGreat

/- Layer 8 (locks): by whom one is held up: both answers. -/
namespace Go.Proofs.YtegnflodgnfffaaGreat
open Go.Bur
set_option linter.unusedSimpArgs false
set_option linter.unusedVariables false
set_option maxRecDepth 100000

/-! ### Numbers in order, each once -/
theorem getA {zs : List Int} {m : Nat} (h : m < zs.length) : zs.toArray[m]! = zs[m] := by
  rw [getElem!_pos zs.toArray m (by simpa using h)]; simp
theorem cp_from {zs : List Int} (hs : zs.Pairwise (· ≤ ·)) : ∀ m, m ≤ zs.length → (Go.Lib.compactUpTo zs.toArray m).Pairwise (· < ·) ∧ ∀ x, x ∈ Go.Lib.compactUpTo zs.toArray m ↔ ∃ j, j < m ∧ zs[j]? = some x
  | 0, _ => by simp [Go.Lib.compactUpTo]
  | m + 1, hm => by
    obtain ⟨h1, h2⟩ := cp_from hs m (by omega)
    have hmono : ∀ i j (hi : i < zs.length) (hj : j < zs.length), i < j → zs[i] ≤ zs[j] := List.pairwise_iff_getElem.1 hs
    have hsplit : ∀ x, (∃ j, j < m + 1 ∧ zs[j]? = some x) ↔ (∃ j, j < m ∧ zs[j]? = some x) ∨ x = zs[m] := fun x => by
      constructor
      · rintro ⟨j, hj, e⟩
        by_cases hjm : j = m
        · subst hjm
          rw [get_some (by omega)] at e
          exact .inr (Option.some.inj e).symm
        · exact .inl ⟨j, by omega, e⟩
      · rintro (⟨j, hj, e⟩ | rfl)
        · exact ⟨j, by omega, e⟩
        · exact ⟨m, by omega, get_some (by omega)⟩
    rw [Go.Lib.compactUpTo_succ]
    by_cases hk : Go.Lib.keeps zs.toArray m = true
    · rw [if_pos hk, getA (by omega)]
      refine ⟨List.pairwise_append.2 ⟨h1, List.pairwise_singleton _ _, fun a ha b hb => ?_⟩, fun x => ?_⟩
      · rw [List.mem_singleton] at hb
        subst hb
        obtain ⟨j, hj, e⟩ := (h2 a).1 ha
        rw [get_some (by omega)] at e
        obtain rfl := Option.some.inj e
        have h3 := hmono j m (by omega) (by omega) hj
        unfold Go.Lib.keeps at hk
        rw [decide_eq_true_iff] at hk
        rcases hk with hk | hk
        · omega
        · rw [getA (by omega), getA (by omega)] at hk
          by_cases hjm : j = m - 1
          · subst hjm; omega
          · have h4 := hmono j (m - 1) (by omega) (by omega) (by omega)
            have h5 := hmono (m - 1) m (by omega) (by omega) (by omega)
            omega
      · rw [hsplit, List.mem_append, h2, List.mem_singleton]
    · rw [if_neg hk, List.append_nil]
      refine ⟨h1, fun x => ?_⟩
      rw [hsplit, h2]
      unfold Go.Lib.keeps at hk
      rw [decide_eq_true_iff] at hk
      have hm0 : m ≠ 0 := fun e => hk (.inl e)
      have he : zs[m] = zs[m - 1] := Classical.byContradiction fun e => hk (.inr (by rw [getA (by omega), getA (by omega)]; exact e))
      constructor
      · exact .inl
      · rintro (h | rfl)
        · exact h
        · exact ⟨m - 1, by omega, by rw [get_some (by omega), he]⟩
theorem cp_sort (l : List Int) : (cpZ (sortZ l)).Pairwise (· < ·) ∧ ∀ x, x ∈ cpZ (sortZ l) ↔ x ∈ l := by
  unfold cpZ Go.Lib.compact
  obtain ⟨h1, h2⟩ := cp_from (sortZ_le l) (sortZ l).length (Nat.le_refl _)
  refine ⟨h1, fun x => ?_⟩
  rw [h2, ← mem_sortZ (l := l), List.mem_iff_getElem?]
  constructor
  · rintro ⟨j, _, e⟩; exact ⟨j, e⟩
  · rintro ⟨j, e⟩
    exact ⟨j, (List.getElem?_eq_some_iff.1 e).1, e⟩
theorem cpt_eq (n : Nat) (l : List Int) (h : l.length ≤ 1000000) : slices_Compact_int n l = some (cpZ l) := by
  unfold slices_Compact_int
  rw [Nat.ble_eq_true_of_le (by omega)]
theorem srt_eq (n : Nat) (l : List Int) (h : l.length ≤ 1000000) : slices_Sort_int n l = some (sortZ l) := by
  unfold slices_Sort_int
  rw [Nat.ble_eq_true_of_le (by omega)]

/-! ### Where one waits -/
def occ (t : Int) : Nat → List Wait → Option (Nat × Wait)
  | _, [] => none
  | b, w :: r => if decide (w.txn = t) then some (b, w) else occ t (b + 1) r
def occQ (t : Int) : Nat → List Queue → Option (Nat × Queue × Nat × Wait)
  | _, [] => none
  | i, q :: r => match occ t 0 q.waiters with
    | some (b, w) => some (i, q, b, w)
    | none => occQ t (i + 1) r
theorem occ_some {t : Int} : ∀ {ws : List Wait} {k b : Nat} {w : Wait}, occ t k ws = some (b, w) → ∃ j, b = k + j ∧ ws[j]? = some w ∧ w.txn = t
  | [], _, _, _, h => by cases h
  | v :: r, k, b, w, h => by
    unfold occ at h
    split at h
    · rename_i hv
      cases h
      exact ⟨0, rfl, rfl, of_decide_eq_true hv⟩
    · obtain ⟨j, h1, h2, h3⟩ := occ_some h
      exact ⟨j + 1, by omega, by simpa using h2, h3⟩
theorem occ_none {t : Int} : ∀ {ws : List Wait} {k : Nat}, occ t k ws = none → ∀ w ∈ ws, w.txn ≠ t
  | [], _, _ => nofun
  | v :: r, k, h => by
    unfold occ at h
    split at h
    · cases h
    · rename_i hv
      intro w hw
      rcases List.mem_cons.1 hw with rfl | hw
      · exact fun e => hv (decide_eq_true e)
      · exact occ_none h w hw
theorem occQ_some {t : Int} : ∀ {qs : List Queue} {k i b : Nat} {q : Queue} {w : Wait}, occQ t k qs = some (i, q, b, w) → (∃ j, i = k + j ∧ qs[j]? = some q) ∧ q.waiters[b]? = some w ∧ w.txn = t
  | [], _, _, _, _, _, h => by cases h
  | v :: r, k, i, b, q, w, h => by
    unfold occQ at h
    split at h
    · rename_i b' w' hv
      cases h
      obtain ⟨j, h1, h2, h3⟩ := occ_some hv
      rw [Nat.zero_add] at h1
      subst h1
      exact ⟨⟨0, rfl, rfl⟩, h2, h3⟩
    · obtain ⟨⟨j, h1, h2⟩, h3⟩ := occQ_some h
      exact ⟨⟨j + 1, by omega, by simpa using h2⟩, h3⟩
theorem indexW (n : Nat) (hn : 1003 ≤ n) (ws : List Wait) (hw : ws.length ≤ 1000) (t : Int) : slices_IndexFunc_Wait_f149 n ws t = some (match occ t 0 ws with | some (b, _) => (b : Int) | none => -1) := by
  unfold slices_IndexFunc_Wait_f149
  show slices_IndexFunc_Wait_f149_l1 n n (ws, t, (ws.length : Int), ((0 : Nat) : Int), ()) = _
  unfold slices_IndexFunc_Wait_f149_l1
  have key : ∀ (l : List Wait) (k : Nat), runL (fun i (w : Wait) (_ : Unit) => if decide (w.txn = t) then .inl (some (i : Int)) else .inr ()) (fun _ => some (-1)) l k () = some (match occ t k l with | some (b, _) => (b : Int) | none => -1) := by
    intro l
    induction l with
    | nil => intro k; rfl
    | cons w r ih =>
      intro k
      unfold occ
      cases h : decide (w.txn = t) with
      | true => simp [runL, h]
      | false => simp only [runL, h, Bool.false_eq_true, if_false]; exact ih (k + 1)
  rw [run_loop ws (fun i (_ : Unit) => (ws, t, (ws.length : Int), (i : Int), ())) (fun i w _ => if decide (w.txn = t) then .inl (some (i : Int)) else .inr ()) (fun _ => some (-1)) ?_ ?_ n 0 () (Nat.zero_le _) (by omega)]
  · rw [List.drop_zero]; exact key ws 0
  · intro r i s y hy hi
    simp only [lt_dec hi, cond_true, idx_nat, hy, Option.bind_some, locks_waits_1, ibeq, wrap_succ (show i < 4611686018427387904 by omega)]
    cases decide (y.txn = t) <;> rfl
  · intro r s
    simp only [ge_dec (Nat.lt_irrefl _), cond_false]
theorem waits_eq (n : Nat) (hn : 1003 ≤ n) (o : Locks) (hs : SmallL o.queues) (hq : o.queues.length ≤ 1000) (t : Int) : locks_waits n o t = some (match occQ t 0 o.queues with | some (i, _, b, _) => ((i : Int), (b : Int), true) | none => (0, 0, false)) := by
  unfold locks_waits
  show locks_waits_l1 n n (o.queues, (o.queues.length : Int), ((0 : Nat) : Int), t, ()) = _
  unfold locks_waits_l1
  have key : ∀ (l : List Queue) (k : Nat), runL (fun i (q : Queue) (_ : Unit) => match occ t 0 q.waiters with | some (b, _) => .inl (some ((i : Int), (b : Int), true)) | none => .inr ()) (fun _ => some (0, 0, false)) l k () = some (match occQ t k l with | some (i, _, b, _) => ((i : Int), (b : Int), true) | none => (0, 0, false)) := by
    intro l
    induction l with
    | nil => intro k; rfl
    | cons q r ih =>
      intro k
      unfold occQ
      cases h : occ t 0 q.waiters with
      | some x => simp [runL, h]
      | none => simp only [runL, h]; exact ih (k + 1)
  rw [run_loop o.queues (fun i (_ : Unit) => (o.queues, (o.queues.length : Int), (i : Int), t, ())) (fun i q _ => match occ t 0 q.waiters with | some (b, _) => .inl (some ((i : Int), (b : Int), true)) | none => .inr ()) (fun _ => some (0, 0, false)) ?_ ?_ n 0 () (Nat.zero_le _) (by omega)]
  · rw [List.drop_zero]; exact key _ 0
  · intro r i s q hy hi
    simp only [lt_dec hi, cond_true, idx_nat, hy, Option.bind_some, indexW n hn q.waiters (hs q (List.mem_of_getElem? hy)).2, wrap_succ (show i < 4611686018427387904 by omega)]
    cases occ t 0 q.waiters with
    | none => rfl
    | some x =>
      obtain ⟨b, w⟩ := x
      simp only [show ((b : Int) ≥ 0) by omega, decide_true, cond_true]
  · intro r s
    simp only [ge_dec (Nat.lt_irrefl _), cond_false]

/-! ### By whom -/
/-- Those who hold up the waiter w at place b. -/
def blk (q : Queue) (b : Nat) (w : Wait) (t : Int) : List Int := (q.holders.filter fun h => !decide (h.txn = t) && !goesB h.mode w.mode).map (·.txn) ++ (q.waiters.take b).map (·.txn)
def blkL (qs : List Queue) (t : Int) : List Int := match occQ t 0 qs with
  | some (_, q, b, w) => if lockB qs then cpZ (sortZ (blk q b w t)) else []
  | none => []
theorem foldl_app {α : Type} {f : α → Int} : ∀ {l : List α} {s : List Int}, l.foldl (fun s x => s ++ [f x]) s = s ++ l.map f
  | [], s => by simp
  | x :: l, s => by rw [List.foldl_cons, foldl_app]; simp
theorem foldl_appF {α : Type} {p : α → Bool} {f : α → Int} : ∀ {l : List α} {s : List Int}, l.foldl (fun s x => if p x then s ++ [f x] else s) s = s ++ (l.filter p).map f
  | [], s => by simp
  | x :: l, s => by
    rw [List.foldl_cons, foldl_appF]
    cases h : p x <;> simp [h]
theorem blockers_eq (n : Nat) (hn : 3003 ≤ n) (o : Locks) (hs : SmallL o.queues) (hq : o.queues.length ≤ 1000) (t : Int) : locks_Blockers n o t = some (blkL o.queues t) := by
  unfold locks_Blockers blkL
  rw [waits_eq n (by omega) o hs hq t, Option.bind_some]
  cases hoc : occQ t 0 o.queues with
  | none => rfl
  | some x =>
    obtain ⟨i, q, b, w⟩ := x
    obtain ⟨⟨j, hij, hqi⟩, hwb, hwt⟩ := occQ_some hoc
    rw [Nat.zero_add] at hij
    subst hij
    have hqm := hs q (List.mem_of_getElem? hqi)
    have hb : b < q.waiters.length := (List.getElem?_eq_some_iff.1 hwb).1
    simp only [Bool.not_true, cond_false, check_eq n (by omega) o hs, Option.bind_some, jn, idx_nat, hqi]
    cases hl : lockB o.queues with
    | false => rfl
    | true =>
      simp only [if_true, bne_self_eq_false, cond_false]
      show locks_Blockers_l1 n n (t, (b : Int), q.holders, (q.holders.length : Int), ((0 : Nat) : Int), q, [], ()) = _
      unfold locks_Blockers_l1
      rw [run_loopI q.holders (fun i (s : List Int) => (t, (b : Int), q.holders, (q.holders.length : Int), (i : Int), q, s, ())) (fun _ h s => .inr (if !decide (h.txn = t) && !goesB h.mode w.mode then s ++ [h.txn] else s)) (fun s => some (cpZ (sortZ (s ++ (q.waiters.take b).map (·.txn))))) (fun i s => s.length ≤ i) ?_ ?_ ?_ n 0 [] (Nat.zero_le _) (by omega) (Nat.le_refl _)]
      · rw [List.drop_zero, runL_fold (g := fun (h : Hold) s => if !decide (h.txn = t) && !goesB h.mode w.mode then s ++ [h.txn] else s), foldl_appF]
        rfl
      · intro i s h s' hx hI he
        cases he
        split
        · simp; omega
        · omega
      · intro r i s h hx hi hI
        simp only [lt_dec hi, cond_true, idx_nat, hx, Option.bind_some, jn, locks_Blockers_j2, ibne, hwb, goes_eq n (by omega), wrap_succ (show i < 4611686018427387904 by omega), app_lt (show s.length + [h.txn].length ≤ 1000000 by simp; omega) (show 8 ≤ 1000 by omega)]
        cases decide (h.txn = t) <;> cases goesB h.mode w.mode <;> rfl
      · intro r s hI
        have hsub : sub q.waiters 0 (b : Int) = some (q.waiters.take b) := by
          have := sub_ok (l := q.waiters) (a := 0) (b := b) (Nat.zero_le _) (by omega)
          simpa using this
        simp only [ge_dec (Nat.lt_irrefl _), cond_false, hsub, Option.bind_some]
        have htl : (q.waiters.take b).length ≤ 1000 := by rw [List.length_take]; omega
        have hI : s.length ≤ q.holders.length := hI
        show locks_Blockers_l3 n n (q.waiters.take b, ((q.waiters.take b).length : Int), ((0 : Nat) : Int), s, ()) = _
        unfold locks_Blockers_l3
        rw [run_loopI (q.waiters.take b) (fun i (s : List Int) => (q.waiters.take b, ((q.waiters.take b).length : Int), (i : Int), s, ())) (fun _ h s => .inr (s ++ [h.txn])) (fun s => some (cpZ (sortZ s))) (fun i s => s.length ≤ 1000 + i) ?_ ?_ ?_ n 0 s (Nat.zero_le _) (by omega) (by omega)]
        · rw [List.drop_zero, runL_fold (g := fun (h : Wait) s => s ++ [h.txn]), foldl_app]
        · intro i s h s' hx hI he
          cases he
          simp; omega
        · intro r i s h hx hi hI
          simp only [lt_dec hi, cond_true, idx_nat, hx, Option.bind_some, wrap_succ (show i < 4611686018427387904 by omega), app_lt (show s.length + [h.txn].length ≤ 1000000 by simp; omega) (show 8 ≤ 1000 by omega)]
        · intro r s hI
          have hI : s.length ≤ 1000 + (q.waiters.take b).length := hI
          simp only [ge_dec (Nat.lt_irrefl _), cond_false, srt_eq n s (by omega), Option.bind_some, cpt_eq n (sortZ s) (by rw [sortZ_len]; omega)]
end Go.Proofs.YtegnflodgnfffaaGreat

/- Layer 8 (locks): by whom one is held up, by the document; it is the same. -/
namespace Go.Proofs.YtegnflodgnfffaaGreat
open Go.Bur
set_option linter.unusedSimpArgs false
set_option linter.unusedVariables false
set_option maxRecDepth 100000

def SmallM (qs : List Queue) : Prop := ∀ q ∈ qs, q.holders.length ≤ 30 ∧ q.waiters.length ≤ 30
theorem SmallM.l {qs : List Queue} (h : SmallM qs) : SmallL qs := fun q hq => by have := h q hq; omega
theorem lock_len {qs : List Queue} (h : lockB qs = true) : qs.length ≤ 500 := by
  unfold lockB at h
  rw [Bool.and_eq_true, decide_eq_true_iff] at h
  exact h.1
theorem lock_q {qs : List Queue} (h : lockB qs = true) : ∀ q ∈ qs, qB q = true := fun q hq => by
  unfold lockB at h
  rw [Bool.and_eq_true, allFrom_iff] at h
  obtain ⟨i, hi⟩ := List.mem_iff_getElem?.1 hq
  have := h.2 i q hi
  unfold qP at this
  simp only [Bool.and_eq_true] at this
  unfold qB
  simp only [Bool.and_eq_true]
  exact ⟨⟨this.1.1.1, this.1.2⟩, this.2.1⟩
theorem lock_holders {qs : List Queue} (h : lockB qs = true) {q : Queue} (hq : q ∈ qs) : ∀ x ∈ q.holders, txnB x.txn = true := fun x hx => by
  have := lock_q h q hq
  unfold qB holdersB at this
  simp only [Bool.and_eq_true, chain_iff ltH_trans] at this
  have := this.1.2.2.1 x hx
  unfold hB at this
  simp only [Bool.and_eq_true] at this
  exact this.1.1
theorem lock_waiters {qs : List Queue} (h : lockB qs = true) {q : Queue} (hq : q ∈ qs) : ∀ w ∈ q.waiters, txnB w.txn = true := by
  have := lock_q h q hq
  unfold qB at this
  simp only [Bool.and_eq_true] at this
  exact wS_txn this.2
theorem wnod_q {q : Queue} (h : qB q = true) : (q.waiters.map (·.txn)).Nodup := by
  unfold qB waitersB at h
  simp only [Bool.and_eq_true, decide_eq_true_iff] at h
  exact h.2.1.2
theorem nod_from {qs : List Queue} : ∀ (t pre : List Queue), qs = pre ++ t → allFrom (qP qs) pre.length t = true → ((wT pre).map (·.txn)).Nodup → ((wT qs).map (·.txn)).Nodup
  | [], pre, he, _, h => by rw [he, List.append_nil]; exact h
  | q :: t, pre, he, ha, h => by
    rw [allFrom, Bool.and_eq_true] at ha
    have hq := ha.1
    unfold qP at hq
    rw [show qs.take pre.length = pre by rw [he]; simp] at hq
    simp only [Bool.and_eq_true, List.all_eq_true, mhas_metW] at hq
    refine nod_from t (pre ++ [q]) (by rw [he]; simp) (by rw [List.length_append]; exact ha.2) ?_
    have e : wT (pre ++ [q]) = wT pre ++ q.waiters := by simp [wT]
    rw [e, List.map_append, List.nodup_append]
    refine ⟨h, wnod_q (by unfold qB; simp only [Bool.and_eq_true]; exact ⟨⟨hq.1.1.1, hq.1.2⟩, hq.2.1⟩), fun a ha' b hb e => ?_⟩
    subst e
    obtain ⟨w, hw, rfl⟩ := List.mem_map.1 hb
    have := hq.2.2 w hw
    rw [decide_eq_true ha'] at this
    simp at this
theorem lock_nod {qs : List Queue} (h : lockB qs = true) : ((wT qs).map (·.txn)).Nodup := by
  unfold lockB at h
  rw [Bool.and_eq_true] at h
  exact nod_from qs [] rfl h.2 (by simp [wT])

/-! ### What is met -/
def metI (m : List (Int × Bool)) (l : List Int) : List (Int × Bool) := l.foldl (fun m x => (x, true) :: m) m
theorem metI_len {l : List Int} : ∀ {m : List (Int × Bool)}, (metI m l).length = m.length + l.length := by
  induction l with
  | nil => intro m; rfl
  | cons x l ih => intro m; show (metI ((x, true) :: m) l).length = _; rw [ih]; simp; omega
theorem mhas_metI {x : Int} : ∀ {l : List Int} {m : List (Int × Bool)}, mhas (metI m l) x = true ↔ mhas m x = true ∨ x ∈ l
  | [], m => by simp [metI]
  | y :: l, m => by
    show mhas (metI ((y, true) :: m) l) x = true ↔ _
    rw [mhas_metI (l := l)]
    simp only [mhas, List.any_cons, Bool.or_eq_true, decide_eq_true_iff, List.mem_cons]
    constructor
    · rintro ((h | h) | h)
      · exact .inr (.inl h.symm)
      · exact .inl h
      · exact .inr (.inr h)
    · rintro (h | h | h)
      · exact .inl (.inr h)
      · exact .inl (.inl h.symm)
      · exact .inr h
def foldI {α σ : Type} (g : Nat → α → σ → σ) : Nat → List α → σ → σ
  | _, [], s => s
  | i, x :: r, s => foldI g (i + 1) r (g i x s)
theorem runL_foldI {α σ R : Type} {g : Nat → α → σ → σ} {fin : σ → Option R} : ∀ (l : List α) (i : Nat) (s : σ), runL (fun i x s => .inr (g i x s)) fin l i s = fin (foldI g i l s)
  | [], _, _ => rfl
  | x :: l, i, s => runL_foldI l (i + 1) _
def stB (q : Queue) (t : Int) (b : Nat) (w : Wait) (m : List (Int × Bool)) : List (Int × Bool) := if decide (w.txn = t) then metI m (blk q b w t) else m
def metB (qs : List Queue) (t : Int) (m : List (Int × Bool)) : List (Int × Bool) := qs.foldl (fun m q => foldI (stB q t) 0 q.waiters m) m
theorem mhas_stB {x : Int} {q : Queue} {t : Int} : ∀ {ws : List Wait} {k : Nat} {m : List (Int × Bool)}, mhas (foldI (stB q t) k ws m) x = true ↔ mhas m x = true ∨ ∃ b w, ws[b]? = some w ∧ w.txn = t ∧ x ∈ blk q (k + b) w t
  | [], k, m => by simp [foldI]
  | v :: r, k, m => by
    rw [foldI, mhas_stB (ws := r)]
    have h1 : mhas (stB q t k v m) x = true ↔ mhas m x = true ∨ v.txn = t ∧ x ∈ blk q k v t := by
      unfold stB
      by_cases h : v.txn = t
      · rw [if_pos (decide_eq_true h), mhas_metI]
        simp [h]
      · rw [if_neg (by simpa using h)]
        simp [h]
    rw [h1]
    constructor
    · rintro ((h | ⟨h, k⟩) | ⟨b, w, h2, h3, h4⟩)
      · exact .inl h
      · exact .inr ⟨0, v, rfl, h, k⟩
      · exact .inr ⟨b + 1, w, by simpa using h2, h3, by rw [show k + (b + 1) = k + 1 + b from by omega]; exact h4⟩
    · rintro (h | ⟨b, w, h2, h3, h4⟩)
      · exact .inl (.inl h)
      · cases b with
        | zero => simp at h2; subst h2; exact .inl (.inr ⟨h3, h4⟩)
        | succ b => exact .inr ⟨b, w, by simpa using h2, h3, by rw [show k + 1 + b = k + (b + 1) from by omega]; exact h4⟩
theorem mhas_metB {x t : Int} : ∀ {qs : List Queue} {m : List (Int × Bool)}, mhas (metB qs t m) x = true ↔ mhas m x = true ∨ ∃ q ∈ qs, ∃ b w, q.waiters[b]? = some w ∧ w.txn = t ∧ x ∈ blk q b w t
  | [], m => by simp [metB]
  | q :: r, m => by
    show mhas (metB r t (foldI (stB q t) 0 q.waiters m)) x = true ↔ _
    rw [mhas_metB (qs := r), mhas_stB]
    simp only [Nat.zero_add, List.mem_cons]
    constructor
    · rintro ((h | ⟨b, w, h⟩) | ⟨p, hp, h⟩)
      · exact .inl h
      · exact .inr ⟨q, .inl rfl, b, w, h⟩
      · exact .inr ⟨p, .inr hp, h⟩
    · rintro (h | ⟨p, rfl | hp, h⟩)
      · exact .inl (.inl h)
      · exact .inl (.inr h)
      · exact .inr ⟨p, hp, h⟩
theorem blk_len {q : Queue} {b : Nat} {w : Wait} {t : Int} (hh : q.holders.length ≤ 30) (hw : q.waiters.length ≤ 30) : (blk q b w t).length ≤ 60 := by
  unfold blk
  have h1 := List.length_filter_le (fun h : Hold => !decide (h.txn = t) && !goesB h.mode w.mode) q.holders
  simp only [List.length_append, List.length_map, List.length_take]; omega
theorem stB_len {q : Queue} {b : Nat} {w : Wait} {t : Int} {m : List (Int × Bool)} (hh : q.holders.length ≤ 30) (hw : q.waiters.length ≤ 30) : (stB q t b w m).length ≤ m.length + 60 := by
  unfold stB
  split
  · rw [metI_len]; have := blk_len (b := b) (w := w) (t := t) hh hw; omega
  · omega
theorem foldB_len {q : Queue} {t : Int} (hh : q.holders.length ≤ 30) (hw : q.waiters.length ≤ 30) : ∀ {ws : List Wait} {k : Nat} {m : List (Int × Bool)}, (foldI (stB q t) k ws m).length ≤ m.length + 60 * ws.length
  | [], _, _ => by simp [foldI]
  | v :: r, k, m => by
    have h1 := foldB_len (t := t) hh hw (ws := r) (k := k + 1) (m := stB q t k v m)
    have h2 := stB_len (b := k) (w := v) (t := t) (m := m) hh hw
    rw [foldI, List.length_cons]; omega
theorem blk_txn {q : Queue} {b : Nat} {w : Wait} {t x : Int} (h1 : ∀ h ∈ q.holders, txnB h.txn = true) (h2 : ∀ w ∈ q.waiters, txnB w.txn = true) (h : x ∈ blk q b w t) : txnB x = true := by
  unfold blk at h
  rcases List.mem_append.1 h with h | h
  · obtain ⟨y, hy, rfl⟩ := List.mem_map.1 h
    exact h1 y (List.mem_filter.1 hy).1
  · obtain ⟨y, hy, rfl⟩ := List.mem_map.1 h
    exact h2 y (List.mem_of_mem_take hy)

/-! ### The document's walk -/
theorem foldl_metF {α : Type} {p : α → Bool} {f : α → Int} : ∀ {l : List α} {m : List (Int × Bool)}, l.foldl (fun m x => if p x then (f x, true) :: m else m) m = metI m ((l.filter p).map f)
  | [], m => rfl
  | x :: l, m => by
    rw [List.foldl_cons, foldl_metF]
    cases h : p x <;> simp [h, metI]
theorem foldl_met {α : Type} {f : α → Int} : ∀ {l : List α} {m : List (Int × Bool)}, l.foldl (fun m x => (f x, true) :: m) m = metI m (l.map f)
  | [], m => rfl
  | x :: l, m => by rw [List.foldl_cons, foldl_met]; rfl
theorem rb6 (n : Nat) (J : Int × (List Queue) × Int × Int × (List Wait) × Int × Int × (List (Int × Bool)) × Queue × Unit → Option (List Int)) (t : Int) (qs : List Queue) (L i : Int) (ws : List Wait) (Lw b : Int) (us : List Wait) (hu : us.length ≤ 1000) (hn : us.length < n) (ht : ∀ w ∈ us, txnB w.txn = true) (m : List (Int × Bool)) (hm : m.length ≤ 990000) (q : Queue) :
    ref08_Blockers_l6 n J n (t, qs, L, i, ws, Lw, b, us, (us.length : Int), 0, m, q, ()) = J (t, qs, L, i, ws, Lw, b, metI m (us.map (·.txn)), q, ()) := by
  show ref08_Blockers_l6 n J n (t, qs, L, i, ws, Lw, b, us, (us.length : Int), ((0 : Nat) : Int), m, q, ()) = _
  unfold ref08_Blockers_l6
  rw [run_loopI us (fun k (s : List (Int × Bool)) => (t, qs, L, i, ws, Lw, b, us, (us.length : Int), (k : Int), s, q, ())) (fun _ w s => .inr ((w.txn, true) :: s)) (fun s => J (t, qs, L, i, ws, Lw, b, s, q, ())) (fun k s => s.length ≤ 990000 + k) ?_ ?_ ?_ n 0 m (Nat.zero_le _) hn (by omega)]
  · rw [List.drop_zero, runL_fold (g := fun (w : Wait) s => (w.txn, true) :: s), foldl_met (f := fun w : Wait => w.txn)]
  · intro k s w s' hx hI he
    cases he
    simp; omega
  · intro r k s w hx hi hI
    simp only [lt_dec hi, cond_true, idx_nat, hx, Option.bind_some, put_tr (key_txn (ht w (List.mem_of_getElem? hx))) (show s.length ≤ 1000000 by omega), wrap_succ (show k < 4611686018427387904 by omega)]
  · intro r s hI
    simp only [ge_dec (Nat.lt_irrefl _), cond_false]
theorem rb4 (n : Nat) (hn : 1003 ≤ n) (J : Int × (List Queue) × Int × Int × (List Wait) × Int × Int × (List (Int × Bool)) × Queue × Unit → Option (List Int)) (t : Int) (qs : List Queue) (L i : Int) (Lw : Int) (b : Nat) (q : Queue) (hh : q.holders.length ≤ 30) (hw : q.waiters.length ≤ 30) (hb : b ≤ q.waiters.length) (h1 : ∀ h ∈ q.holders, txnB h.txn = true) (h2 : ∀ w ∈ q.waiters, txnB w.txn = true) (m : List (Int × Bool)) (hm : m.length ≤ 950000) (w : Wait) :
    ref08_Blockers_l4 n J n (t, (b : Int), qs, L, i, q.waiters, Lw, (b : Int), q.holders, (q.holders.length : Int), 0, m, q, w, ()) = J (t, qs, L, i, q.waiters, Lw, (b : Int), metI m (blk q b w t), q, ()) := by
  show ref08_Blockers_l4 n J n (t, (b : Int), qs, L, i, q.waiters, Lw, (b : Int), q.holders, (q.holders.length : Int), ((0 : Nat) : Int), m, q, w, ()) = _
  unfold ref08_Blockers_l4
  rw [run_loopI q.holders (fun k (s : List (Int × Bool)) => (t, (b : Int), qs, L, i, q.waiters, Lw, (b : Int), q.holders, (q.holders.length : Int), (k : Int), s, q, w, ())) (fun _ h s => .inr (if !decide (h.txn = t) && !goesB h.mode w.mode then (h.txn, true) :: s else s)) (fun s => J (t, qs, L, i, q.waiters, Lw, (b : Int), metI s ((q.waiters.take b).map (·.txn)), q, ())) (fun k s => s.length ≤ 950000 + k) ?_ ?_ ?_ n 0 m (Nat.zero_le _) (by omega) (by omega)]
  · rw [List.drop_zero, runL_fold (g := fun (h : Hold) s => if !decide (h.txn = t) && !goesB h.mode w.mode then (h.txn, true) :: s else s), foldl_metF (p := fun h : Hold => !decide (h.txn = t) && !goesB h.mode w.mode) (f := fun h => h.txn)]
    unfold blk metI
    rw [List.foldl_append]
  · intro k s h s' hx hI he
    cases he
    split
    · simp; omega
    · omega
  · intro r k s h hx hi hI
    simp only [lt_dec hi, cond_true, idx_nat, hx, Option.bind_some, jn, ref08_Blockers_j5, ibne, rgoes_eq, put_tr (key_txn (h1 h (List.mem_of_getElem? hx))) (show s.length ≤ 1000000 by omega), wrap_succ (show k < 4611686018427387904 by omega)]
    cases decide (h.txn = t) <;> cases goesB h.mode w.mode <;> rfl
  · intro r s hI
    have hI : s.length ≤ 950000 + q.holders.length := hI
    have hsub : sub q.waiters 0 (b : Int) = some (q.waiters.take b) := by
      have := sub_ok (l := q.waiters) (a := 0) (b := b) (Nat.zero_le _) (by omega)
      simpa using this
    have htl : (q.waiters.take b).length ≤ 30 := by rw [List.length_take]; omega
    simp only [ge_dec (Nat.lt_irrefl _), cond_false, hsub, Option.bind_some]
    exact rb6 n J t qs L i q.waiters Lw b (q.waiters.take b) (by omega) (by omega) (fun w hw => h2 w (List.mem_of_mem_take hw)) s (by omega) q
theorem rb2 (n : Nat) (hn : 1003 ≤ n) (r : Int × (List Queue) × Int × Int × (List (Int × Bool)) × Unit → Option (List Int)) (t : Int) (qs : List Queue) (L : Int) (i : Nat) (hi0 : i ≤ 500) (q : Queue) (hh : q.holders.length ≤ 30) (hw : q.waiters.length ≤ 30) (h1 : ∀ h ∈ q.holders, txnB h.txn = true) (h2 : ∀ w ∈ q.waiters, txnB w.txn = true) (m : List (Int × Bool)) (hm : m.length ≤ 1800 * i) :
    ref08_Blockers_l2 n r n (t, qs, L, (i : Int), q.waiters, (q.waiters.length : Int), 0, m, q, ()) = r (t, qs, L, ((i + 1 : Nat) : Int), foldI (stB q t) 0 q.waiters m, ()) := by
  show ref08_Blockers_l2 n r n (t, qs, L, (i : Int), q.waiters, (q.waiters.length : Int), ((0 : Nat) : Int), m, q, ()) = _
  unfold ref08_Blockers_l2
  rw [run_loopI q.waiters (fun b (s : List (Int × Bool)) => (t, qs, L, (i : Int), q.waiters, (q.waiters.length : Int), (b : Int), s, q, ())) (fun b w s => .inr (stB q t b w s)) (fun s => r (t, qs, L, ((i + 1 : Nat) : Int), s, ())) (fun b s => s.length ≤ 1800 * i + 60 * b) ?_ ?_ ?_ n 0 m (Nat.zero_le _) (by omega) (by omega)]
  · rw [List.drop_zero, runL_foldI]
  · intro b s w s' hx hI he
    cases he
    have := stB_len (b := b) (w := w) (t := t) (m := s) hh hw
    show (stB q t b w s).length ≤ 1800 * i + 60 * (b + 1)
    omega
  · intro r2 b s w hx hb hI
    have e := rb4 n hn (ref08_Blockers_j3 n r2) t qs L i (q.waiters.length : Int) b q hh hw (by omega) h1 h2 s (by omega) w
    simp only [lt_dec hb, cond_true, idx_nat, hx, Option.bind_some, jn, ibne, e]
    unfold stB
    cases decide (w.txn = t) with
    | true => simp only [Bool.not_true, cond_false, if_true, ref08_Blockers_j3, wrap_succ (show b < 4611686018427387904 by omega)]
    | false => simp only [Bool.not_false, cond_true, Bool.false_eq_true, if_false, ref08_Blockers_j3, wrap_succ (show b < 4611686018427387904 by omega)]
  · intro r2 s hI
    simp only [ge_dec (Nat.lt_irrefl _), cond_false, wrap_succ (show i < 4611686018427387904 by omega)]

/-! ### In order, the least first -/
theorem rb8 (n : Nat) (r : (List (Int × Bool)) × (List Int) × Unit → Option (List Int)) (out : List Int) (ho : out.length ≤ 900000) (m : List (Int × Bool)) (mn : Int) (hkey : keyIn .i64 mn = true) : ∀ (k : Nat) (ks : List Int) (cur : Int), ks.Nodup → (∀ x ∈ ks, 0 < x) → ((cur ≠ 0 ∧ mn = cur) ∨ mn ∈ ks) → (cur ≠ 0 → mn ≤ cur) → (∀ x ∈ ks, mn ≤ x) → 0 ≤ cur → ks.length < k →
    ref08_Blockers_l8 n r k (cur, out, m, ks, ()) = r (m.filter (fun p => !decide (p.1 = mn)), out ++ [mn], ()) := by
  intro k
  induction k with
  | zero => intro ks cur _ _ _ _ _ _ h; omega
  | succ k ih =>
    intro ks cur hnd hpos hmn hle hall hc hk
    obtain ⟨r2, hr⟩ : ∃ r2, r2 = ref08_Blockers_l8 n r k := ⟨_, rfl⟩
    rw [← hr] at ih
    unfold ref08_Blockers_l8 at hr ⊢
    rw [loopF, ← hr]
    clear hr
    simp only []
    refine pickK_all (fun h => ?_) fun y hy => ?_
    · subst h
      rcases hmn with ⟨_, rfl⟩ | h
      · unfold mdel
        rw [hkey]
        simp only [Option.bind_some, app_lt (show out.length + [mn].length ≤ 1000000 by simp; omega) (show 8 ≤ 1000 by omega)]
      · cases h
    · simp only [jn, ref08_Blockers_j9, ibeq]
      have hfl := strike_len (x := y) hnd
      rw [if_pos hy] at hfl
      have hmem : ∀ x, x ∈ ks.filter (fun z => !decide (z = y)) ↔ x ∈ ks ∧ x ≠ y := fun x => by simp [List.mem_filter]
      have hy0 := hpos y hy
      have hmy := hall y hy
      have go : ∀ c, ((c = y ∧ (cur = 0 ∨ y < cur)) ∨ (c = cur ∧ cur ≠ 0 ∧ ¬ y < cur)) → r2 (c, out, m, ks.filter (fun z => !decide (z = y)), ()) = r (m.filter (fun p => !decide (p.1 = mn)), out ++ [mn], ()) := by
        intro c hcc
        refine ih _ c (hnd.filter _) (fun x hx => hpos x ((hmem x).1 hx).1) ?_ ?_ (fun x hx => hall x ((hmem x).1 hx).1) ?_ (by omega)
        · by_cases e : mn = y
          · left
            rcases hcc with ⟨rfl, _⟩ | ⟨rfl, h1, h2⟩
            · exact ⟨by omega, e⟩
            · have := hle h1
              exact ⟨h1, by omega⟩
          · rcases hmn with ⟨h1, h2⟩ | h1
            · left
              rcases hcc with ⟨rfl, h3 | h3⟩ | ⟨rfl, h3, h4⟩
              · exact absurd h3 h1
              · omega
              · exact ⟨h1, h2⟩
            · exact .inr ((hmem mn).2 ⟨h1, e⟩)
        · intro _
          rcases hcc with ⟨rfl, _⟩ | ⟨rfl, h1, _⟩
          · exact hmy
          · exact hle h1
        · rcases hcc with ⟨rfl, _⟩ | ⟨rfl, _, _⟩ <;> omega
      by_cases h0 : cur = 0
      · rw [decide_eq_true h0]
        simp only [cond_true]
        exact go y (.inl ⟨rfl, .inl h0⟩)
      · rw [decide_eq_false h0]
        simp only [cond_false]
        by_cases h1 : y < cur
        · rw [decide_eq_true h1]
          simp only [cond_true]
          exact go y (.inl ⟨rfl, .inr h1⟩)
        · rw [decide_eq_false h1]
          simp only [cond_false]
          exact go cur (.inr ⟨rfl, h0, h1⟩)
theorem rb7 (n : Nat) : ∀ (k : Nat) (m : List (Int × Bool)) (out : List Int), (∀ x, mhas m x = true → txnB x = true) → out.length + (mkeys m).length ≤ 900000 → (mkeys m).length < k → (mkeys m).length < n → ref08_Blockers_l7 n k (m, out, ()) = some (out ++ sortZ (mkeys m)) := by
  intro k
  induction k with
  | zero => intro m out _ _ h; omega
  | succ k ih =>
    intro m out hk hlen hkl hn
    obtain ⟨r2, hr⟩ : ∃ r2, r2 = ref08_Blockers_l7 n k := ⟨_, rfl⟩
    rw [← hr] at ih
    unfold ref08_Blockers_l7 at hr ⊢
    rw [loopF, ← hr]
    clear hr
    simp only []
    cases hs : sortZ (mkeys m) with
    | nil =>
      have h0 : (mkeys m).length = 0 := by rw [← sortZ_len, hs]; rfl
      rw [decide_eq_false (by omega), List.append_nil]
      rfl
    | cons a t =>
      have hl : (mkeys m).length = t.length + 1 := by rw [← sortZ_len, hs]; rfl
      have hup := sortZ_up (mkeys_nodup (m := m))
      rw [hs] at hup
      obtain ⟨u1, u2⟩ := List.pairwise_cons.1 hup
      have hmem : ∀ x, x ∈ mkeys m ↔ x = a ∨ x ∈ t := fun x => by rw [← mem_sortZ, hs, List.mem_cons]
      have ha : a ∈ mkeys m := (hmem a).2 (.inl rfl)
      have hpos : ∀ x ∈ mkeys m, 0 < x := fun x hx => by
        have := of_decide_eq_true (hk x (mem_mkeys.1 hx)); omega
      rw [decide_eq_true (by omega)]
      simp only [cond_true]
      rw [rb8 n r2 out (by omega) m a (key_txn (hk a (mem_mkeys.1 ha))) n (mkeys m) 0 mkeys_nodup hpos (.inr ha) (fun h => absurd rfl h) (fun x hx => by
        rcases (hmem x).1 hx with rfl | h
        · exact Int.le_refl _
        · have := u1 x h; omega) (Int.le_refl _) hn]
      have hm2 : ∀ x, x ∈ mkeys (m.filter fun p => !decide (p.1 = a)) ↔ x ∈ t := fun x => by
        rw [mem_mkeys]
        have h1 : mhas (m.filter fun p => !decide (p.1 = a)) x = true ↔ mhas m x = true ∧ x ≠ a := by
          simp only [mhas, List.any_eq_true, List.mem_filter, decide_eq_true_iff, Bool.not_eq_true', decide_eq_false_iff_not]
          constructor
          · rintro ⟨p, ⟨h1, h2⟩, rfl⟩; exact ⟨⟨p, h1, rfl⟩, h2⟩
          · rintro ⟨⟨p, h1, rfl⟩, h2⟩; exact ⟨p, ⟨h1, h2⟩, rfl⟩
        rw [h1, ← mem_mkeys, hmem]
        constructor
        · rintro ⟨rfl | h, h2⟩
          · exact absurd rfl h2
          · exact h
        · intro h
          exact ⟨.inr h, fun e => by have := u1 x h; omega⟩
      have hnd2 := mkeys_nodup (m := m.filter fun p => !decide (p.1 = a))
      have hl2 := nodup_ext_len hnd2 (up_nodup u2) hm2
      rw [ih _ _ (fun x hx => hk x ?_) (by simp; omega) (by omega) (by omega)]
      · have : sortZ (mkeys (m.filter fun p => !decide (p.1 = a))) = t := up_ext (sortZ_up hnd2) u2 fun x => by rw [mem_sortZ]; exact hm2 x
        rw [this]; simp
      · have h1 := (hm2 x).1 (mem_mkeys.2 hx)
        exact mem_mkeys.1 ((hmem x).2 (.inr h1))
theorem metB_len {t : Int} : ∀ {qs : List Queue} {m : List (Int × Bool)}, SmallM qs → (metB qs t m).length ≤ m.length + 1800 * qs.length
  | [], m, _ => by simp [metB]
  | q :: r, m, h => by
    have h1 := h q (List.mem_cons_self ..)
    have h2 := foldB_len (t := t) h1.1 h1.2 (ws := q.waiters) (k := 0) (m := m)
    have h3 := metB_len (t := t) (qs := r) (m := foldI (stB q t) 0 q.waiters m) fun x hx => h x (List.mem_cons_of_mem _ hx)
    show (metB r t (foldI (stB q t) 0 q.waiters m)).length ≤ _
    rw [List.length_cons]; omega
theorem rblockers_met (n : Nat) (hn : 1000003 ≤ n) (o : Locks) (hs : SmallM o.queues) (hl : lockB o.queues = true) (t : Int) : ref08_Blockers n o t = some (sortZ (mkeys (metB o.queues t []))) := by
  have hlen := lock_len hl
  unfold ref08_Blockers
  show ref08_Blockers_l1 n n (t, o.queues, (o.queues.length : Int), ((0 : Nat) : Int), [], ()) = _
  unfold ref08_Blockers_l1
  rw [run_loopI o.queues (fun i (s : List (Int × Bool)) => (t, o.queues, (o.queues.length : Int), (i : Int), s, ())) (fun _ q s => .inr (foldI (stB q t) 0 q.waiters s)) (fun s => ref08_Blockers_l7 n n (s, [], ())) (fun i s => s.length ≤ 1800 * i) ?_ ?_ ?_ n 0 [] (Nat.zero_le _) (by omega) (Nat.le_refl _)]
  · rw [List.drop_zero, runL_fold (g := fun (q : Queue) s => foldI (stB q t) 0 q.waiters s)]
    show ref08_Blockers_l7 n n (metB o.queues t [], [], ()) = _
    have h1 := metB_len (t := t) (m := []) hs
    have h2 := mkeys_le (m := metB o.queues t [])
    simp only [List.length_nil] at h1
    rw [rb7 n n _ _ (fun x hx => ?_) (by simp only [List.length_nil]; omega) (by omega) (by omega), List.nil_append]
    rcases mhas_metB.1 hx with h | ⟨q, hq, b, w, _, _, hx⟩
    · cases h
    · exact blk_txn (lock_holders hl hq) (lock_waiters hl hq) hx
  · intro i s q s' hx hI he
    cases he
    have hq := hs q (List.mem_of_getElem? hx)
    have h2 := foldB_len (t := t) hq.1 hq.2 (ws := q.waiters) (k := 0) (m := s)
    show (foldI (stB q t) 0 q.waiters s).length ≤ 1800 * (i + 1)
    omega
  · intro r i s q hx hi hI
    have hm := List.mem_of_getElem? hx
    have hq := hs q hm
    simp only [lt_dec hi, cond_true, idx_nat, hx, Option.bind_some]
    exact rb2 n (by omega) r t o.queues (o.queues.length : Int) i (by omega) q hq.1 hq.2 (lock_holders hl hm) (lock_waiters hl hm) s hI
  · intro r s hI
    simp only [ge_dec (Nat.lt_irrefl _), cond_false]
theorem nod_get {ws : List Wait} (h : (ws.map (·.txn)).Nodup) {i j : Nat} {a b : Wait} (hi : ws[i]? = some a) (hj : ws[j]? = some b) (e : a.txn = b.txn) : i = j := by
  have h : ws.Pairwise fun a b => a.txn ≠ b.txn := List.pairwise_map.1 h
  have h1 := (List.getElem?_eq_some_iff.1 hi)
  have h2 := (List.getElem?_eq_some_iff.1 hj)
  obtain ⟨l1, rfl⟩ := h1
  obtain ⟨l2, rfl⟩ := h2
  have h3 := List.pairwise_iff_getElem.1 h
  rcases Nat.lt_trichotomy i j with hlt | rfl | hlt
  · exact absurd e (h3 i j l1 l2 hlt)
  · rfl
  · exact absurd e.symm (h3 j i l2 l1 hlt)
theorem occ_uniq {t : Int} : ∀ {qs : List Queue} {k : Nat}, ((wT qs).map (·.txn)).Nodup → ∀ q ∈ qs, ∀ b w, q.waiters[b]? = some w → w.txn = t → ∃ i, occQ t k qs = some (i, q, b, w)
  | [], _, _, _, h, _, _, _, _ => by cases h
  | v :: r, k, hnd, q, hq, b, w, hb, hw => by
    have e : wT (v :: r) = v.waiters ++ wT r := rfl
    rw [e, List.map_append, List.nodup_append] at hnd
    obtain ⟨n1, n2, n3⟩ := hnd
    have hwm := List.mem_of_getElem? hb
    unfold occQ
    rcases List.mem_cons.1 hq with rfl | hq
    · cases ho : occ t 0 q.waiters with
      | none => exact absurd hw (occ_none ho w hwm)
      | some x =>
        obtain ⟨b', w'⟩ := x
        obtain ⟨j, h1, h2, h3⟩ := occ_some ho
        rw [Nat.zero_add] at h1
        subst h1
        have := nod_get n1 h2 hb (h3.trans hw.symm)
        subst this
        rw [h2] at hb
        cases hb
        exact ⟨k, rfl⟩
    · cases ho : occ t 0 v.waiters with
      | none => exact occ_uniq n2 q hq b w hb hw
      | some x =>
        obtain ⟨b', w'⟩ := x
        obtain ⟨j, h1, h2, h3⟩ := occ_some ho
        exact absurd (h3.trans hw.symm) (n3 _ (List.mem_map.2 ⟨w', List.mem_of_getElem? h2, rfl⟩) _ (List.mem_map.2 ⟨w, List.mem_flatMap.2 ⟨q, hq, hwm⟩, rfl⟩))
theorem blkL_up (qs : List Queue) (t : Int) : (blkL qs t).Pairwise (· < ·) := by
  unfold blkL
  split
  · split
    · exact (cp_sort _).1
    · exact .nil
  · exact .nil
theorem rblockers_eq (n : Nat) (hn : 1000003 ≤ n) (o : Locks) (hs : SmallM o.queues) (hl : lockB o.queues = true) (t : Int) : ref08_Blockers n o t = some (blkL o.queues t) := by
  rw [rblockers_met n hn o hs hl t]
  congr 1
  refine up_ext (sortZ_up mkeys_nodup) (blkL_up _ _) fun x => ?_
  rw [mem_sortZ, mem_mkeys, mhas_metB]
  unfold blkL
  constructor
  · rintro (h | ⟨q, hq, b, w, h1, h2, h3⟩)
    · cases h
    · obtain ⟨i, e⟩ := occ_uniq (k := 0) (lock_nod hl) q hq b w h1 h2
      rw [e]
      simp only [hl, if_true]
      exact ((cp_sort _).2 x).2 h3
  · intro h
    right
    split at h
    · rename_i i q b w e
      rw [if_pos hl] at h
      obtain ⟨⟨j, _, hj⟩, hb, hw⟩ := occQ_some e
      exact ⟨q, List.mem_of_getElem? hj, b, w, hb, hw, ((cp_sort _).2 x).1 h⟩
    · cases h
end Go.Proofs.YtegnflodgnfffaaGreat

/- Layer 27: who waits for whom, of whatever locks. -/
namespace Go.Proofs.YtegnflodgnfffaaGreat
open Go.Bur
set_option linter.unusedSimpArgs false
set_option linter.unusedVariables false
set_option maxRecDepth 100000

/-- The edges of those who wait. -/
def edgeL (qs : List Queue) (ts : List Int) : List Edge := (cpZ (sortZ ts)).flatMap fun t => (blkL qs t).map (Edge.mk t)
theorem blkL_len {qs : List Queue} {t : Int} (hs : SmallM qs) : (blkL qs t).length ≤ 60 := by
  unfold blkL
  split
  · rename_i i q b w e
    obtain ⟨⟨j, _, hj⟩, _, _⟩ := occQ_some e
    have hq := hs q (List.mem_of_getElem? hj)
    split
    · refine Nat.le_trans (cpZ_len _) ?_
      rw [sortZ_len]
      exact blk_len hq.1 hq.2
    · simp
  · simp
theorem blkL_txn {qs : List Queue} (hl : lockB qs = true) {t x : Int} (h : x ∈ blkL qs t) : txnB t = true ∧ txnB x = true := by
  unfold blkL at h
  split at h
  · rename_i i q b w e
    rw [if_pos hl] at h
    obtain ⟨⟨j, _, hj⟩, hb, hw⟩ := occQ_some e
    have hq := List.mem_of_getElem? hj
    exact ⟨hw ▸ lock_waiters hl hq w (List.mem_of_getElem? hb), blk_txn (lock_holders hl hq) (lock_waiters hl hq) (((cp_sort _).2 x).1 h)⟩
  · cases h
theorem edgeF_len {qs : List Queue} (hs : SmallM qs) : ∀ ts : List Int, (ts.flatMap fun t => (blkL qs t).map (Edge.mk t)).length ≤ 60 * ts.length
  | [] => by simp
  | t :: ts => by
    have h1 := blkL_len (t := t) hs
    have h2 := edgeF_len hs ts
    rw [List.flatMap_cons, List.length_append, List.length_map, List.length_cons]; omega
theorem edgeL_len {qs : List Queue} (hs : SmallM qs) (ts : List Int) : (edgeL qs ts).length ≤ 60 * ts.length := by
  have h1 := edgeF_len hs (cpZ (sortZ ts))
  have h2 := cpZ_len (sortZ ts)
  rw [sortZ_len] at h2
  unfold edgeL; omega
theorem mem_edgeL {qs : List Queue} {ts : List Int} {e : Edge} : e ∈ edgeL qs ts ↔ e.from_ ∈ ts ∧ e.to ∈ blkL qs e.from_ := by
  unfold edgeL
  rw [List.mem_flatMap]
  constructor
  · rintro ⟨t, ht, h⟩
    obtain ⟨x, hx, rfl⟩ := List.mem_map.1 h
    exact ⟨((cp_sort ts).2 t).1 ht, hx⟩
  · rintro ⟨h1, h2⟩
    exact ⟨e.from_, ((cp_sort ts).2 _).2 h1, List.mem_map.2 ⟨e.to, h2, rfl⟩⟩
theorem flat_srt {f : Int → List Int} (hf : ∀ t, (f t).Pairwise (· < ·)) : ∀ {ts : List Int}, ts.Pairwise (· < ·) → (ts.flatMap fun t => (f t).map (Edge.mk t)).Pairwise fun a b => ltE a b = true
  | [], _ => by simp
  | t :: ts, h => by
    obtain ⟨h1, h2⟩ := List.pairwise_cons.1 h
    rw [List.flatMap_cons, List.pairwise_append]
    refine ⟨List.pairwise_map.2 (List.Pairwise.imp (R := fun a b : Int => a < b) (S := fun a b => ltE (Edge.mk t a) (Edge.mk t b) = true) (fun h => ltE_iff.2 (.inr ⟨rfl, h⟩)) (hf t)), flat_srt hf h2, fun a ha b hb => ?_⟩
    obtain ⟨x, _, rfl⟩ := List.mem_map.1 ha
    obtain ⟨u, hu, hb⟩ := List.mem_flatMap.1 hb
    obtain ⟨y, _, rfl⟩ := List.mem_map.1 hb
    exact ltE_iff.2 (.inl (h1 u hu))
theorem edgeL_srt (qs : List Queue) (ts : List Int) : (edgeL qs ts).Pairwise fun a b => ltE a b = true := flat_srt (blkL_up qs) (cp_sort ts).1
theorem edgeL_keys {qs : List Queue} (hl : lockB qs = true) (ts : List Int) : KeysIn (edgeL qs ts) := fun e he => by
  obtain ⟨h1, h2⟩ := blkL_txn hl (mem_edgeL.1 he).2
  exact ⟨key_txn h1, key_txn h2⟩
theorem foldl_appM {f : Int → Edge} : ∀ {l : List Int} {s : List Edge}, l.foldl (fun s x => s ++ [f x]) s = s ++ l.map f
  | [], s => by simp
  | x :: l, s => by rw [List.foldl_cons, foldl_appM]; simp
theorem foldl_flat {f : Int → List Edge} : ∀ {l : List Int} {s : List Edge}, l.foldl (fun s x => s ++ f x) s = s ++ l.flatMap f
  | [], s => by simp
  | x :: l, s => by rw [List.foldl_cons, foldl_flat]; simp
theorem clone_int (n : Nat) (l : List Int) (hl : l.length ≤ 1000) : slices_Clone_int n l = some l := clone_eq (by omega) (by omega)

theorem jedges_eq (n : Nat) (hn : 3003 ≤ n) (o : Locks) (hs : SmallM o.queues) (hq : o.queues.length ≤ 1000) (ts : List Int) (ht : ts.length ≤ 100) : judge_edges n o ts = some (edgeL o.queues ts) := by
  unfold judge_edges
  rw [clone_int n ts (by omega), Option.bind_some, srt_eq n ts (by omega), Option.bind_some, cpt_eq n _ (by rw [sortZ_len]; omega), Option.bind_some]
  unfold edgeL
  have hT : (cpZ (sortZ ts)).length ≤ 100 := by
    have h2 := cpZ_len (sortZ ts)
    rw [sortZ_len] at h2; omega
  generalize cpZ (sortZ ts) = T at hT
  show judge_edges_l1 n n ((T.length : Int), ((0 : Nat) : Int), o, [], T, ()) = _
  unfold judge_edges_l1
  rw [run_loopI T (fun i (s : List Edge) => ((T.length : Int), (i : Int), o, s, T, ())) (fun _ t s => .inr (s ++ (blkL o.queues t).map (Edge.mk t))) (fun s => some s) (fun i s => s.length ≤ 60 * i) ?_ ?_ ?_ n 0 [] (Nat.zero_le _) (by omega) (Nat.le_refl _)]
  · rw [List.drop_zero, runL_fold (g := fun t s => s ++ (blkL o.queues t).map (Edge.mk t)), foldl_flat]; rfl
  · intro i s t s' hx hI h
    cases h
    have := blkL_len (t := t) hs
    rw [List.length_append, List.length_map]; omega
  · intro r i s t hx hi hI
    have hB := blkL_len (t := t) hs
    simp only [lt_dec hi, cond_true, idx_nat, hx, Option.bind_some, blockers_eq n (by omega) o hs.l hq]
    generalize blkL o.queues t = B at hB
    show judge_edges_l2 n r n (t, (T.length : Int), (i : Int), (B.length : Int), ((0 : Nat) : Int), o, s, [], T, B, ()) = _
    unfold judge_edges_l2
    rw [run_loopI B (fun k (z : List Edge) => (t, (T.length : Int), (i : Int), (B.length : Int), (k : Int), o, s, z, T, B, ())) (fun _ b z => .inr (z ++ [Edge.mk t b])) (fun z => r ((T.length : Int), ((i + 1 : Nat) : Int), o, s ++ z, T, ())) (fun k z => z.length ≤ k) ?_ ?_ ?_ n 0 [] (Nat.zero_le _) (by omega) (Nat.le_refl _)]
    · rw [List.drop_zero, runL_fold (g := fun b z => z ++ [Edge.mk t b]), foldl_appM]; rfl
    · intro k z b z' hy hz h
      cases h
      simp; omega
    · intro r2 k z b hy hk hz
      simp only [lt_dec hk, cond_true, idx_nat, hy, Option.bind_some, app_lt (show z.length + [Edge.mk t b].length ≤ 1000000 by simp; omega) (show 16 ≤ 1000 by omega), wrap_succ (show k < 4611686018427387904 by omega)]
    · intro r2 z hz
      have hz : z.length ≤ B.length := hz
      simp only [ge_dec (Nat.lt_irrefl _), cond_false, app_lt (show s.length + z.length ≤ 1000000 by omega) (show 16 ≤ 1000 by omega), Option.bind_some, wrap_succ (show i < 4611686018427387904 by omega)]
  · intro r s hI
    simp only [ge_dec (Nat.lt_irrefl _), cond_false]
theorem redges_eq (n : Nat) (hn : 1000003 ≤ n) (o : Locks) (hs : SmallM o.queues) (hl : lockB o.queues = true) (ts : List Int) (ht : ts.length ≤ 100) : ref27_Edges n o ts = some (edgeL o.queues ts) := by
  have key : ref27_Edges n o ts = some (ts.foldl (fun s t => ((blkL o.queues t).map (Edge.mk t)).foldl insE s) []) := by
    unfold ref27_Edges
    show ref27_Edges_l1 n n (ts, [], ((0 : Nat) : Int), o, ()) = _
    unfold ref27_Edges_l1
    rw [run_loopI ts (fun i (s : List Edge) => (ts, s, (i : Int), o, ())) (fun _ t s => .inr (((blkL o.queues t).map (Edge.mk t)).foldl insE s)) (fun s => some s) (fun i s => s.length ≤ 60 * i ∧ s.Pairwise fun a b => ltE a b = true) ?_ ?_ ?_ n 0 [] (Nat.zero_le _) (by omega) ⟨Nat.le_refl _, .nil⟩]
    · rw [List.drop_zero, runL_fold (g := fun t s => ((blkL o.queues t).map (Edge.mk t)).foldl insE s)]
    · intro i s t s' hx hI h
      cases h
      have h1 := blkL_len (t := t) hs
      have h2 := adds_len (more := (blkL o.queues t).map (Edge.mk t)) (l := s)
      rw [List.length_map] at h2
      exact ⟨by omega, up_adds hI.2⟩
    · intro r i s t hx hi hI
      have hB := blkL_len (t := t) hs
      simp only [lt_dec hi, cond_true, idx_nat, hx, Option.bind_some, rblockers_eq n hn o hs hl]
      generalize blkL o.queues t = B at hB
      show ref27_Edges_l2 n r n (ts, s, (i : Int), ((0 : Nat) : Int), o, [], B, ()) = _
      unfold ref27_Edges_l2
      rw [run_loopI B (fun k (z : List Edge) => (ts, s, (i : Int), (k : Int), o, z, B, ())) (fun _ b z => .inr (z ++ [Edge.mk t b])) (fun z => (ref09_Add n s z).bind fun y => r (ts, y, ((i + 1 : Nat) : Int), o, ())) (fun k z => z.length ≤ k) ?_ ?_ ?_ n 0 [] (Nat.zero_le _) (by omega) (Nat.le_refl _)]
      · rw [List.drop_zero, runL_fold (g := fun b z => z ++ [Edge.mk t b]), foldl_appM, List.nil_append, addE n (by omega) _ (by simp; omega) s (by omega) hI.2]; rfl
      · intro k z b z' hy hz h
        cases h
        simp; omega
      · intro r2 k z b hy hk hz
        simp only [lt_dec hk, cond_true, idx_nat, hx, hy, Option.bind_some, app_lt (show z.length + [Edge.mk t b].length ≤ 1000000 by simp; omega) (show 16 ≤ 1000 by omega), wrap_succ (show k < 4611686018427387904 by omega)]
      · intro r2 z hz
        simp only [ge_dec (Nat.lt_irrefl _), cond_false, wrap_succ (show i < 4611686018427387904 by omega)]
    · intro r s hI
      simp only [ge_dec (Nat.lt_irrefl _), cond_false]
  rw [key]
  congr 1
  have gen : ∀ (l : List Int) (s : List Edge), s.Pairwise (fun a b => ltE a b = true) → (l.foldl (fun s t => ((blkL o.queues t).map (Edge.mk t)).foldl insE s) s).Pairwise (fun a b => ltE a b = true) ∧ ∀ e, e ∈ l.foldl (fun s t => ((blkL o.queues t).map (Edge.mk t)).foldl insE s) s ↔ e ∈ s ∨ e.from_ ∈ l ∧ e.to ∈ blkL o.queues e.from_ := by
    intro l
    induction l with
    | nil => intro s h; exact ⟨h, fun e => by simp⟩
    | cons t l ih =>
      intro s h
      obtain ⟨h1, h2⟩ := ih _ (up_adds (more := (blkL o.queues t).map (Edge.mk t)) h)
      refine ⟨h1, fun e => ?_⟩
      rw [List.foldl_cons, h2, mem_adds, List.mem_cons, List.mem_map]
      constructor
      · rintro ((h | ⟨x, hx, rfl⟩) | ⟨h, k⟩)
        · exact .inl h
        · exact .inr ⟨.inl rfl, hx⟩
        · exact .inr ⟨.inr h, k⟩
      · rintro (h | ⟨h | h, k⟩)
        · exact .inl (.inl h)
        · exact .inl (.inr ⟨e.to, h ▸ k, by cases e; simp at h; simp [h]⟩)
        · exact .inr ⟨h, k⟩
  obtain ⟨g1, g2⟩ := gen ts [] .nil
  refine srtE_ext g1 (edgeL_srt _ _) fun e => ?_
  rw [g2, mem_edgeL]
  simp
open Classical in
theorem rcircle_eq (n : Nat) (hn : 60003 ≤ n) (l : List Edge) (hl : l.length ≤ 20000) (hk : KeysIn l) : ref27_Circle n l = some (rightP l && decide (Circ l)) := by
  unfold ref27_Circle
  rw [rrightG n hn l hl, Option.bind_some]
  cases hr : rightP l with
  | false => rfl
  | true =>
    have hsh := right_short hr
    have hg := right_good (by omega) hk hr
    simp only [Bool.not_true, cond_false, namesG n hn l hl, Option.bind_some, Bool.true_and]
    show ref27_Circle_l1 n n (l, ((0 : Nat) : Int), names l, ()) = _
    unfold ref27_Circle_l1
    have h8 := hg.len8
    rw [run_loop (names l) (fun i (_ : Unit) => (l, (i : Int), names l, ())) (fun _ x _ => if decide (0 < (bnd l x).length) then .inl (some true) else .inr ()) (fun _ => some false) ?_ ?_ n 0 () (Nat.zero_le _) (by omega)]
    · rw [List.drop_zero, runL_any]
      have : decide (Circ l) = (names l).any fun x => decide (0 < (bnd l x).length) := by
        rw [Bool.eq_iff_iff, decide_eq_true_iff, circ_bnd, List.any_eq_true]
        simp only [decide_eq_true_iff]
      rw [this]
      cases (names l).any fun x => decide (0 < (bnd l x).length) <;> rfl
    · intro r i s x hx hi
      simp only [lt_dec hi, cond_true, idx_nat, hx, Option.bind_some, rboundE hg n (by omega), wrap_succ (show i < 4611686018427387904 by omega)]
      have h0 : decide (((bnd l x).length : Int) > 0) = decide (0 < (bnd l x).length) := decide_eq_decide.2 (by omega)
      rw [h0]
      cases decide (0 < (bnd l x).length) <;> rfl
    · intro r s
      simp only [ge_dec (Nat.lt_irrefl _), cond_false]

/-! ### The law -/
theorem wakesX : law27_wakes 1100000 = some true := by kernel_rfl
def overQ (qs : List Queue) : Bool := decide (60 < qs.length) || qs.any fun q => decide (30 < q.holders.length) || decide (30 < q.waiters.length)
theorem overLocks_eq (n : Nat) (hn : 1003 ≤ n) (o : Locks) : law27_overLocks n o = some (overQ o.queues) := by
  unfold law27_overLocks overQ
  by_cases h2 : 60 < o.queues.length
  · rw [decide_eq_true (by omega : (o.queues.length : Int) > 60), decide_eq_true h2]; rfl
  · rw [decide_eq_false (by omega : ¬ (o.queues.length : Int) > 60), decide_eq_false h2]
    show law27_overLocks_l1 n n (o.queues, (o.queues.length : Int), ((0 : Nat) : Int), ()) = _
    unfold law27_overLocks_l1
    rw [run_loop o.queues (fun (i : Nat) (_ : Unit) => (o.queues, (o.queues.length : Int), (i : Int), ())) (fun _ q _ => if decide (30 < q.holders.length) || decide (30 < q.waiters.length) then .inl (some true) else .inr ()) (fun _ => some false) ?_ ?_ n 0 () (Nat.zero_le _) (by omega)]
    · rw [List.drop_zero, runL_any]
      cases o.queues.any (fun q => decide (30 < q.holders.length) || decide (30 < q.waiters.length)) <;> rfl
    · intro r i s q hx hi
      have e1 : decide ((q.holders.length : Int) > 30) = decide (30 < q.holders.length) := decide_eq_decide.2 (by omega)
      have e2 : decide ((q.waiters.length : Int) > 30) = decide (30 < q.waiters.length) := decide_eq_decide.2 (by omega)
      simp only [lt_dec hi, cond_true, idx_nat, hx, Option.bind_some, jn, e1, e2, wrap_succ (show i < 4611686018427387904 by omega)]
      cases decide (30 < q.holders.length) <;> cases decide (30 < q.waiters.length) <;> rfl
    · intro r s
      simp only [ge_dec (Nat.lt_irrefl _), cond_false]
theorem sameG_refl (n : Nat) (hn : 60003 ≤ n) (a : List Edge) (ha : a.length ≤ 20000) : ref09_Same n a a = some true := by
  unfold ref09_Same
  rw [bne_self_eq_false]
  show ref09_Same_l1 n n (a, a, ((0 : Nat) : Int), ()) = _
  unfold ref09_Same_l1
  rw [run_loop a (fun i (_ : Unit) => (a, a, (i : Int), ())) (fun _ _ s => .inr s) (fun _ => some true) ?_ ?_ n 0 () (Nat.zero_le _) (by omega)]
  · rw [List.drop_zero, runL_skip]
  · intro r i s x hx hi
    simp only [lt_dec hi, cond_true, idx_nat, hx, Option.bind_some, edge_eqb, decide_true, Bool.not_true, cond_false, wrap_succ (show i < 4611686018427387904 by omega)]
  · intro r s
    simp only [ge_dec (Nat.lt_irrefl _), cond_false]
theorem ids_of {o : Locks} (h : okT tab 9 (.st 21) o) : IdIn o.queues := fun q hq => by
  obtain ⟨a, b⟩ : inI .u16 q.res.id := (h.1.1 q hq).2.2.1
  have a : 0 ≤ q.res.id := a
  have b : q.res.id ≤ 65535 := b
  omega
open Classical in
theorem plainJudgeWaits (o : Locks) (ts : List Int) (h1 : okT tab 9 (.st 21) o) (h2 : okT tab 9 (.sl (.int .i64)) ts) : ∃ n, law27_JudgeWaits n o ts = some true := by
  obtain ⟨n, hn, hwk⟩ : ∃ n, 1000003 ≤ n ∧ law27_wakes n = some true := ⟨1100000, by omega, wakesX⟩
  refine ⟨n, ?_⟩
  unfold law27_JudgeWaits
  simp only [hwk, Option.bind_some, Bool.not_true, cond_false, overLocks_eq n (by omega), jn]
  cases ho : overQ o.queues with
  | true => rfl
  | false =>
    simp only [cond_false]
    by_cases hts : (ts.length : Int) > 30
    · rw [decide_eq_true hts]; rfl
    · rw [decide_eq_false hts]
      unfold overQ at ho
      rw [Bool.or_eq_false_iff, decide_eq_false_iff_not, List.any_eq_false] at ho
      have hs : SmallM o.queues := fun q hq => by
        have := ho.2 q hq
        rw [Bool.or_eq_true, decide_eq_true_iff, decide_eq_true_iff] at this
        omega
      have hE := edgeL_len hs ts
      have hchk := check_eq n (by omega) o hs.l
      have hedg := jedges_eq n (by omega) o hs (by omega) ts (by omega)
      simp only [cond_false, app_lt (show ([] : List Int).length + ts.length ≤ 1000000 by simp; omega) (show 8 ≤ 1000 by omega), List.nil_append, Option.bind_some, judge_Edges, judge_Free, hchk, rright_eq n (by omega) o hs.l (ids_of h1)]
      cases hl : lockB o.queues with
      | false => rfl
      | true =>
        have hk := edgeL_keys hl ts
        simp only [if_true, bne_self_eq_false, cond_false, hedg, Option.bind_some, circlesG n (by omega) _ (show (edgeL o.queues ts).length ≤ 20000 by omega) hk, redges_eq n hn o hs hl ts (by omega), rcircle_eq n (by omega) _ (show (edgeL o.queues ts).length ≤ 20000 by omega) hk, Bool.not_true, law27_JudgeWaits_j1, beq_self_eq_true, cond_true, sameG_refl n (by omega) _ (show (edgeL o.queues ts).length ≤ 20000 by omega), jn]
        cases rightP (edgeL o.queues ts) && decide (Circ (edgeL o.queues ts)) <;> rfl
end Go.Proofs.YtegnflodgnfffaaGreat
