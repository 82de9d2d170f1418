/- Layer 8 (locks): what locks tell. -/
import Derived.Test.YtndehfninoimgaaGreatLockE
namespace Go.Proofs.YtndehfninoimgaaGreat
open Go.Bur
set_option linter.unusedSimpArgs false
set_option linter.unusedVariables false
set_option maxRecDepth 100000

/-! ### Rows that are the same -/
def eqL {α : Type} (e : α → α → Bool) : List α → List α → Bool
  | [], [] => true
  | x :: a, y :: b => e x y && eqL e a b
  | _, _ => false
def atE {α : Type} (e : α → α → Bool) (b : List α) (i : Nat) (x : α) : Bool := match b[i]? with
  | some y => e x y
  | none => false
theorem eqL_len {α : Type} {e : α → α → Bool} : ∀ {a b : List α}, a.length ≠ b.length → eqL e a b = false
  | [], [], h => absurd rfl h
  | x :: a, y :: b, h => by
    have := eqL_len (e := e) (a := a) (b := b) (fun k => h (by simp [k]))
    simp [eqL, this]
  | [], _ :: _, _ => rfl
  | _ :: _, [], _ => rfl
theorem eqL_from {α : Type} {e : α → α → Bool} {b : List α} : ∀ {a : List α} {k : Nat}, a.length = (b.drop k).length → allFrom (atE e b) k a = eqL e a (b.drop k)
  | [], k, h => by
    have : b.drop k = [] := List.eq_nil_of_length_eq_zero h.symm
    rw [this]; rfl
  | x :: a, k, h => by
    have hk : k < b.length := by
      rw [List.length_drop, List.length_cons] at h; omega
    rw [List.drop_eq_getElem_cons hk, allFrom, eqL, ← eqL_from (a := a) (k := k + 1) (by rw [List.length_drop] at *; simp at h; omega)]
    unfold atE
    rw [get_some hk]
theorem eqL_zero {α : Type} {e : α → α → Bool} {a b : List α} (h : a.length = b.length) : allFrom (atE e b) 0 a = eqL e a b := eqL_from (by simpa using h)
theorem eqL_refl {α : Type} {e : α → α → Bool} (he : ∀ x, e x x = true) : ∀ a : List α, eqL e a a = true
  | [] => rfl
  | x :: a => by simp [eqL, he, eqL_refl he a]
theorem equalH (n : Nat) (a b : List Hold) (h : a.length < n) (hb : a.length ≤ 1000) : slices_Equal_Hold n a b = some (eqL Hold.eqb a b) := by
  unfold slices_Equal_Hold
  rw [ineN]
  by_cases hl : a.length = b.length
  · rw [decide_eq_true hl]
    show slices_Equal_Hold_l1 n n (a, b, (a.length : Int), ((0 : Nat) : Int), ()) = _
    unfold slices_Equal_Hold_l1
    rw [run_loop a (fun i (_ : Unit) => (a, b, (a.length : Int), (i : Int), ())) (fun i x _ => if atE Hold.eqb b i x then .inr () else .inl (some false)) (fun _ => some true) ?_ ?_ n 0 () (Nat.zero_le _) (by omega)]
    · rw [List.drop_zero, runL_allFrom, eqL_zero hl]
      cases eqL Hold.eqb a b <;> rfl
    · intro r i s x hx hi
      simp only [lt_dec hi, cond_true, idx_nat, hx, get_some (show i < b.length by omega), Option.bind_some, atE, wrap_succ (show i < 4611686018427387904 by omega)]
      cases Hold.eqb x b[i] <;> rfl
    · intro r s
      simp only [ge_dec (Nat.lt_irrefl _), cond_false]
  · rw [decide_eq_false hl, eqL_len hl]; rfl
theorem equalW (n : Nat) (a b : List Wait) (h : a.length < n) (hb : a.length ≤ 1000) : slices_Equal_Wait n a b = some (eqL Wait.eqb a b) := by
  unfold slices_Equal_Wait
  rw [ineN]
  by_cases hl : a.length = b.length
  · rw [decide_eq_true hl]
    show slices_Equal_Wait_l1 n n (a, b, (a.length : Int), ((0 : Nat) : Int), ()) = _
    unfold slices_Equal_Wait_l1
    rw [run_loop a (fun i (_ : Unit) => (a, b, (a.length : Int), (i : Int), ())) (fun i x _ => if atE Wait.eqb b i x then .inr () else .inl (some false)) (fun _ => some true) ?_ ?_ n 0 () (Nat.zero_le _) (by omega)]
    · rw [List.drop_zero, runL_allFrom, eqL_zero hl]
      cases eqL Wait.eqb a b <;> rfl
    · intro r i s x hx hi
      simp only [lt_dec hi, cond_true, idx_nat, hx, get_some (show i < b.length by omega), Option.bind_some, atE, wrap_succ (show i < 4611686018427387904 by omega)]
      cases Wait.eqb x b[i] <;> rfl
    · intro r s
      simp only [ge_dec (Nat.lt_irrefl _), cond_false]
  · rw [decide_eq_false hl, eqL_len hl]; rfl
def qE (p q : Queue) : Bool := Res.eqb p.res q.res && eqL Hold.eqb p.holders q.holders && eqL Wait.eqb p.waiters q.waiters
theorem same1_eq (n : Nat) (hn : 1003 ≤ n) (p q : Queue) (hp : p.holders.length ≤ 1000 ∧ p.waiters.length ≤ 1000) : locks_Same_1 n p q = some (qE p q) := by
  unfold locks_Same_1 qE
  simp only [jn, equalH n p.holders q.holders (by omega) hp.1, equalW n p.waiters q.waiters (by omega) hp.2, Option.bind_some]
  cases Res.eqb p.res q.res <;> cases eqL Hold.eqb p.holders q.holders <;> rfl
theorem same_eq (n : Nat) (hn : 1003 ≤ n) (a b : Locks) (ha : SmallL a.queues) (hl : a.queues.length ≤ 1000) : locks_Same n a b = some (eqL qE a.queues b.queues) := by
  unfold locks_Same slices_EqualFunc_Queue_f48
  rw [ineN]
  by_cases h : a.queues.length = b.queues.length
  · rw [decide_eq_true h]
    have : slices_EqualFunc_Queue_f48_l1 n n (b.queues, a.queues, (a.queues.length : Int), ((0 : Nat) : Int), ()) = some (eqL qE a.queues b.queues) := by
      unfold slices_EqualFunc_Queue_f48_l1
      rw [run_loop a.queues (fun i (_ : Unit) => (b.queues, a.queues, (a.queues.length : Int), (i : Int), ())) (fun i x _ => if atE qE b.queues i x then .inr () else .inl (some false)) (fun _ => some true) ?_ ?_ n 0 () (Nat.zero_le _) (by omega)]
      · rw [List.drop_zero, runL_allFrom, eqL_zero h]
        cases eqL qE a.queues b.queues <;> rfl
      · intro r i s x hx hi
        simp only [lt_dec hi, cond_true, idx_nat, hx, get_some (show i < b.queues.length by omega), Option.bind_some, same1_eq n hn x _ (ha x (List.mem_of_getElem? hx)), atE, wrap_succ (show i < 4611686018427387904 by omega)]
        cases qE x b.queues[i] <;> rfl
      · intro r s
        simp only [ge_dec (Nat.lt_irrefl _), cond_false]
    show (cond (!true) (some false) (slices_EqualFunc_Queue_f48_l1 n n (b.queues, a.queues, (a.queues.length : Int), ((0 : Nat) : Int), ()))).bind _ = _
    rw [this]; rfl
  · rw [decide_eq_false h, eqL_len h]; rfl
theorem rsame_eq (n : Nat) (hn : 1003 ≤ n) (a b : Locks) (ha : SmallL a.queues) (hl : a.queues.length ≤ 1000) : ref08_Same n a b = some (eqL qE a.queues b.queues) := by
  unfold ref08_Same
  rw [ineN]
  by_cases h : a.queues.length = b.queues.length
  · rw [decide_eq_true h]
    show ref08_Same_l1 n n (a.queues, (a.queues.length : Int), ((0 : Nat) : Int), b, ()) = _
    unfold ref08_Same_l1
    rw [run_loop a.queues (fun i (_ : Unit) => (a.queues, (a.queues.length : Int), (i : Int), b, ())) (fun i x _ => if atE qE b.queues i x then .inr () else .inl (some false)) (fun _ => some true) ?_ ?_ n 0 () (Nat.zero_le _) (by omega)]
    · rw [List.drop_zero, runL_allFrom, eqL_zero h]
      cases eqL qE a.queues b.queues <;> rfl
    · intro r i s p hx hi
      have hp := ha p (List.mem_of_getElem? hx)
      simp only [lt_dec hi, cond_true, idx_nat, hx, get_some (show i < b.queues.length by omega), Option.bind_some, jn, ineN, atE]
      generalize b.queues[i] = q
      unfold qE
      cases hr : Res.eqb p.res q.res with
      | false => rfl
      | true =>
        by_cases h1 : p.holders.length = q.holders.length
        · by_cases h2 : p.waiters.length = q.waiters.length
          · simp only [decide_eq_true h1, decide_eq_true h2, Bool.not_true, cond_false, Bool.true_and]
            have h3 : ref08_Same_l3 n r n (a.queues, (a.queues.length : Int), (i : Int), (p.waiters.length : Int), ((0 : Nat) : Int), b, p, q, ()) = if eqL Wait.eqb p.waiters q.waiters then r (a.queues, (a.queues.length : Int), ((i + 1 : Nat) : Int), b, ()) else some false := by
              unfold ref08_Same_l3
              rw [run_loop p.waiters (fun k (_ : Unit) => (a.queues, (a.queues.length : Int), (i : Int), (p.waiters.length : Int), (k : Int), b, p, q, ())) (fun k x _ => if atE Wait.eqb q.waiters k x then .inr () else .inl (some false)) (fun _ => r (a.queues, (a.queues.length : Int), ((i + 1 : Nat) : Int), b, ())) ?_ ?_ n 0 () (Nat.zero_le _) (by omega)]
              · rw [List.drop_zero, runL_allFrom, eqL_zero h2]
              · intro r2 k s x hy hk
                simp only [lt_dec hk, cond_true, idx_nat, hy, get_some (show k < q.waiters.length by omega), Option.bind_some, atE, wrap_succ (show k < 4611686018427387904 by omega)]
                cases Wait.eqb x q.waiters[k] <;> rfl
              · intro r2 s
                simp only [ge_dec (Nat.lt_irrefl _), cond_false, wrap_succ (show i < 4611686018427387904 by omega)]
            have h4 : ref08_Same_l2 n r n (a.queues, (a.queues.length : Int), (i : Int), (p.holders.length : Int), ((0 : Nat) : Int), b, p, q, ()) = if eqL Hold.eqb p.holders q.holders then (if eqL Wait.eqb p.waiters q.waiters then r (a.queues, (a.queues.length : Int), ((i + 1 : Nat) : Int), b, ()) else some false) else some false := by
              unfold ref08_Same_l2
              rw [run_loop p.holders (fun k (_ : Unit) => (a.queues, (a.queues.length : Int), (i : Int), (p.holders.length : Int), (k : Int), b, p, q, ())) (fun k x _ => if atE Hold.eqb q.holders k x then .inr () else .inl (some false)) (fun _ => if eqL Wait.eqb p.waiters q.waiters then r (a.queues, (a.queues.length : Int), ((i + 1 : Nat) : Int), b, ()) else some false) ?_ ?_ n 0 () (Nat.zero_le _) (by omega)]
              · rw [List.drop_zero, runL_allFrom, eqL_zero h1]
              · intro r2 k s x hy hk
                simp only [lt_dec hk, cond_true, idx_nat, hy, get_some (show k < q.holders.length by omega), Option.bind_some, atE, wrap_succ (show k < 4611686018427387904 by omega)]
                cases Hold.eqb x q.holders[k] <;> rfl
              · intro r2 s
                simp only [ge_dec (Nat.lt_irrefl _), cond_false]
                exact h3
            have h4 : ref08_Same_l2 n r n (a.queues, (a.queues.length : Int), (i : Int), (p.holders.length : Int), 0, b, p, q, ()) = _ := h4
            rw [h4]
            cases eqL Hold.eqb p.holders q.holders <;> cases eqL Wait.eqb p.waiters q.waiters <;> rfl
          · rw [decide_eq_true h1, decide_eq_false h2, eqL_len (e := Wait.eqb) h2, Bool.and_false]; rfl
        · rw [decide_eq_false h1, eqL_len (e := Hold.eqb) h1]; rfl
    · intro r s
      simp only [ge_dec (Nat.lt_irrefl _), cond_false]
  · rw [decide_eq_false h, eqL_len h]; rfl
theorem qE_refl (q : Queue) : qE q q = true := by
  have h1 : ∀ x, Hold.eqb x x = true := fun x => by simp [Hold.eqb]
  have h2 : ∀ x, Wait.eqb x x = true := fun x => by simp [Wait.eqb]
  unfold qE
  rw [eqL_refl h1, eqL_refl h2]
  simp [Res.eqb]

/-! ### For what one waits -/
theorem waitsC_eq (n : Nat) (hn : 1003 ≤ n) (o : Locks) (hs : SmallL o.queues) (hq : o.queues.length ≤ 1000) (t : Int) : locks_Waits n o t = some (match occQ t 0 o.queues with | some (_, q, _, w) => if lockB o.queues then (q.res, w.mode, true) else (Res.mk 0 false 0, 0, false) | none => (Res.mk 0 false 0, 0, false)) := by
  unfold locks_Waits
  rw [waits_eq n hn o hs hq t, Option.bind_some]
  cases hoc : occQ t 0 o.queues with
  | none => rfl
  | some x =>
    obtain ⟨i, q, b, w⟩ := x
    obtain ⟨⟨j, hij, hqi⟩, hwb, hwt⟩ := occQ_some hoc
    rw [Nat.zero_add] at hij
    subst hij
    simp only [Bool.not_true, cond_false, check_eq n hn o hs, Option.bind_some, jn, idx_nat, hqi, hwb]
    cases lockB o.queues <;> rfl
theorem rwaitsC_eq (n : Nat) (hn : 1003 ≤ n) (o : Locks) (hs : SmallL o.queues) (hq : o.queues.length ≤ 1000) (t : Int) : ref08_Waits n o t = some (match occQ t 0 o.queues with | some (_, q, _, w) => (q.res, w.mode, true) | none => (Res.mk 0 false 0, 0, false)) := by
  unfold ref08_Waits
  show ref08_Waits_l1 n n (t, o.queues, (o.queues.length : Int), ((0 : Nat) : Int), Res.mk 0 false 0, ()) = _
  unfold ref08_Waits_l1
  have key : ∀ (l : List Queue) (k : Nat), runL (fun i (q : Queue) (_ : Unit) => match occ t 0 q.waiters with | some (_, w) => .inl (some (q.res, w.mode, true)) | none => .inr ()) (fun _ => some (Res.mk 0 false 0, (0 : Int), false)) l k () = some (match occQ t k l with | some (_, q, _, w) => (q.res, w.mode, true) | none => (Res.mk 0 false 0, 0, false)) := by
    intro l
    induction l with
    | nil => intro k; rfl
    | cons q r ih =>
      intro k
      unfold occQ
      cases h : occ t 0 q.waiters with
      | some x => simp [runL, h]
      | none => simp only [runL, h]; exact ih (k + 1)
  rw [run_loop o.queues (fun i (_ : Unit) => (t, o.queues, (o.queues.length : Int), (i : Int), Res.mk 0 false 0, ())) (fun i q _ => match occ t 0 q.waiters with | some (_, w) => .inl (some (q.res, w.mode, true)) | none => .inr ()) (fun _ => some (Res.mk 0 false 0, (0 : Int), false)) ?_ ?_ n 0 () (Nat.zero_le _) (by omega)]
  · rw [List.drop_zero]; exact key _ 0
  · intro r i s q hy hi
    have hw := (hs q (List.mem_of_getElem? hy)).2
    simp only [lt_dec hi, cond_true, idx_nat, hy, Option.bind_some]
    show ref08_Waits_l2 n r n (t, o.queues, (o.queues.length : Int), (i : Int), q.waiters, (q.waiters.length : Int), ((0 : Nat) : Int), Res.mk 0 false 0, q, ()) = _
    unfold ref08_Waits_l2
    have key2 : ∀ (l : List Wait) (k : Nat), runL (fun i (w : Wait) (_ : Unit) => if decide (w.txn = t) then .inl (some (q.res, w.mode, true)) else .inr ()) (fun _ => r (t, o.queues, (o.queues.length : Int), ((i + 1 : Nat) : Int), Res.mk 0 false 0, ())) l k () = match occ t k l with | some (_, w) => some (q.res, w.mode, true) | none => r (t, o.queues, (o.queues.length : Int), ((i + 1 : Nat) : Int), Res.mk 0 false 0, ()) := by
      intro l
      induction l with
      | nil => intro k; rfl
      | cons w t' ih =>
        intro k
        unfold occ
        cases h : decide (w.txn = t) with
        | true => simp [runL, h]
        | false => simp only [runL, h, Bool.false_eq_true, if_false]; exact ih (k + 1)
    rw [run_loop q.waiters (fun k (_ : Unit) => (t, o.queues, (o.queues.length : Int), (i : Int), q.waiters, (q.waiters.length : Int), (k : Int), Res.mk 0 false 0, q, ())) (fun k w _ => if decide (w.txn = t) then .inl (some (q.res, w.mode, true)) else .inr ()) (fun _ => r (t, o.queues, (o.queues.length : Int), ((i + 1 : Nat) : Int), Res.mk 0 false 0, ())) ?_ ?_ n 0 () (Nat.zero_le _) (by omega)]
    · rw [List.drop_zero, key2]
      cases occ t 0 q.waiters with
      | none => rfl
      | some x => rfl
    · intro r2 k s w hw2 hk
      simp only [lt_dec hk, cond_true, idx_nat, hw2, Option.bind_some, ibeq, wrap_succ (show k < 4611686018427387904 by omega)]
      cases decide (w.txn = t) <;> rfl
    · intro r2 s
      simp only [ge_dec (Nat.lt_irrefl _), cond_false, wrap_succ (show i < 4611686018427387904 by omega)]
  · intro r s
    simp only [ge_dec (Nat.lt_irrefl _), cond_false]

/-! ### What one holds -/
def ownK (t : Int) (q : Queue) (s : List Lock) : List Lock := if decide (heldL q.holders t = 0) then s else s ++ [Lock.mk q.res (heldL q.holders t)]
def ownL8 (qs : List Queue) (t : Int) : List Lock := qs.foldl (fun s q => ownK t q s) []
theorem ownK_len {t : Int} {q : Queue} {s : List Lock} : (ownK t q s).length ≤ s.length + 1 := by
  unfold ownK
  split
  · omega
  · simp
theorem holdsC_eq (n : Nat) (hn : 1003 ≤ n) (o : Locks) (hs : SmallL o.queues) (hq : o.queues.length ≤ 1000) (t : Int) : locks_Holds n o t = some (if lockB o.queues then ownL8 o.queues t else []) := by
  unfold locks_Holds
  rw [check_eq n hn o hs, Option.bind_some]
  cases hl : lockB o.queues with
  | false => rfl
  | true =>
    simp only [if_true, bne_self_eq_false, cond_false, locks_own, Option.bind_some]
    generalize hf : (fun (y3 : HL tabT [.st 5]) (z4 : HL tabT [.sl (.st 5)]) => (app 24 z4.1 ([y3.1] : List Lock)).bind fun l5 => some (0, (l5, ()))) = f
    have h1 : locks_own_1_fyd1 n o t f 0 (([] : List Lock), ()) = some (f, 0, (ownL8 o.queues t, ())) := by
      unfold locks_own_1_fyd1
      show locks_own_1_fyd1_l1 n n (t, o.queues, (o.queues.length : Int), ((0 : Nat) : Int), f, 0, (([] : List Lock), ()), ()) = _
      unfold locks_own_1_fyd1_l1
      rw [run_loopI o.queues (fun i (s : List Lock) => (t, o.queues, (o.queues.length : Int), (i : Int), f, 0, (s, ()), ())) (fun _ q s => .inr (ownK t q s)) (fun s => some (f, 0, (s, ()))) (fun i s => s.length ≤ i) ?_ ?_ ?_ n 0 [] (Nat.zero_le _) (by omega) (Nat.le_refl _)]
      · rw [List.drop_zero, runL_fold (g := fun q s => ownK t q s)]; rfl
      · intro i s q s' hx hI he
        cases he
        have := ownK_len (t := t) (q := q) (s := s); omega
      · intro r i s q hx hi hI
        simp only [lt_dec hi, cond_true, idx_nat, hx, Option.bind_some, held_eq n hn q (hs q (List.mem_of_getElem? hx)).1, ibne, wrap_succ (show i < 4611686018427387904 by omega)]
        unfold ownK
        cases decide (heldL q.holders t = 0) with
        | true => rfl
        | false =>
          simp only [Bool.not_false, cond_true, callY, ← hf, Bool.false_eq_true, if_false]
          have ha : app 24 s [Lock.mk q.res (heldL q.holders t)] = some (s ++ [Lock.mk q.res (heldL q.holders t)]) := app_lt (by simp; omega) (by omega)
          rw [ha]; rfl
      · intro r s hI
        simp only [ge_dec (Nat.lt_irrefl _), cond_false]
    rw [h1]; rfl
theorem rholdsC_eq (n : Nat) (hn : 1003 ≤ n) (o : Locks) (hs : SmallL o.queues) (hq : o.queues.length ≤ 1000) (t : Int) : ref08_Holds n o t = some (ownL8 o.queues t) := by
  unfold ref08_Holds
  show ref08_Holds_l1 n n (t, o.queues, (o.queues.length : Int), ((0 : Nat) : Int), [], ()) = _
  unfold ref08_Holds_l1
  rw [run_loopI o.queues (fun i (s : List Lock) => (t, o.queues, (o.queues.length : Int), (i : Int), s, ())) (fun _ q s => .inr (ownK t q s)) (fun s => some s) (fun i s => s.length ≤ i) ?_ ?_ ?_ n 0 [] (Nat.zero_le _) (by omega) (Nat.le_refl _)]
  · rw [List.drop_zero, runL_fold (g := fun q s => ownK t q s)]; rfl
  · intro i s q s' hx hI he
    cases he
    have := ownK_len (t := t) (q := q) (s := s); omega
  · intro r i s q hx hi hI
    simp only [lt_dec hi, cond_true, idx_nat, hx, Option.bind_some, rheld_eq n hn q (hs q (List.mem_of_getElem? hx)).1, ibne, jn, ref08_Holds_j2, wrap_succ (show i < 4611686018427387904 by omega), app_lt (show s.length + [Lock.mk q.res (heldL q.holders t)].length ≤ 1000000 by simp; omega) (show 24 ≤ 1000 by omega)]
    unfold ownK
    cases decide (heldL q.holders t = 0) <;> rfl
  · intro r s hI
    simp only [ge_dec (Nat.lt_irrefl _), cond_false]
theorem ownL8_len {t : Int} {qs : List Queue} : (ownL8 qs t).length ≤ qs.length := by
  have key : ∀ (l : List Queue) (s : List Lock), (l.foldl (fun s q => ownK t q s) s).length ≤ s.length + l.length := by
    intro l
    induction l with
    | nil => intro s; simp
    | cons q l ih =>
      intro s
      have h1 := ih (ownK t q s)
      have h2 := ownK_len (t := t) (q := q) (s := s)
      rw [List.foldl_cons, List.length_cons]; omega
  simpa [ownL8] using key qs []

/-! ### Which mode one holds -/
theorem lock_srt {qs : List Queue} (h : lockB qs = true) : qs.Pairwise fun a b => ltQ a b = true := by
  unfold lockB at h
  rw [Bool.and_eq_true, allFrom_iff] at h
  have h1 : allFrom (stepA (fun _ => true) ltQ qs) 0 qs = true := allFrom_iff.2 fun i q hq => by
    have := h.2 i q hq
    unfold qP at this
    simp only [Bool.and_eq_true] at this
    unfold stepA
    rw [Bool.true_and]
    exact this.1.1.2
  rw [allFrom_chain, chain_iff (fun a b c => ltR_trans a.res b.res c.res)] at h1
  exact h1.2.1
theorem eqb_res {a b : Res} (h : Res.eqb a b = true) : a = b := by
  obtain ⟨a1, a2, a3⟩ := a
  obtain ⟨b1, b2, b3⟩ := b
  simp only [Res.eqb, Bool.and_true, Bool.and_eq_true, beq_iff_eq] at h
  obtain ⟨h1, h2, h3⟩ := h
  subst h1 h2 h3
  rfl
def modeD (t : Int) (x : Res) : List Queue → Int
  | [] => 0
  | q :: r => if Res.eqb q.res x then heldL q.holders t else modeD t x r
def modeC (t : Int) (x : Res) : List Queue → Int
  | [] => 0
  | q :: r => if !decide (heldL q.holders t = 0) && Res.eqb q.res x then heldL q.holders t else modeC t x r
theorem modeC_none {t : Int} {x : Res} : ∀ {qs : List Queue}, (∀ q ∈ qs, Res.eqb q.res x = false) → modeC t x qs = 0
  | [], _ => rfl
  | q :: r, h => by
    rw [modeC, h q (List.mem_cons_self ..), Bool.and_false]
    exact modeC_none fun p hp => h p (List.mem_cons_of_mem _ hp)
theorem ltR_irr {a : Res} : ltR a a = false := by
  unfold ltR
  exact decide_eq_false (by omega)
theorem modeCD {t : Int} {x : Res} : ∀ {qs : List Queue}, (qs.Pairwise fun a b => ltQ a b = true) → modeC t x qs = modeD t x qs
  | [], _ => rfl
  | q :: r, h => by
    obtain ⟨h1, h2⟩ := List.pairwise_cons.1 h
    rw [modeC, modeD]
    cases he : Res.eqb q.res x with
    | false => rw [Bool.and_false]; exact modeCD h2
    | true =>
      by_cases h0 : heldL q.holders t = 0
      · rw [decide_eq_true h0]
        simp only [Bool.not_true, Bool.false_and, Bool.false_eq_true, if_false, if_true]
        rw [h0]
        refine modeC_none fun p hp => ?_
        cases hpx : Res.eqb p.res x with
        | false => rfl
        | true =>
          have e : p.res = q.res := (eqb_res hpx).trans (eqb_res he).symm
          have := h1 p hp
          unfold ltQ at this
          rw [e, ltR_irr] at this; cases this
      · rw [decide_eq_false h0]; rfl
theorem modeC_eq (n : Nat) (hn : 1003 ≤ n) (o : Locks) (hs : SmallL o.queues) (hq : o.queues.length ≤ 1000) (t : Int) (x : Res) : locks_Mode n o t x = some (if lockB o.queues then modeC t x o.queues else 0) := by
  unfold locks_Mode
  rw [check_eq n hn o hs, Option.bind_some]
  cases hl : lockB o.queues with
  | false => rfl
  | true =>
    simp only [if_true, bne_self_eq_false, cond_false, locks_own, Option.bind_some]
    generalize hf : (fun (y3 : HL tabT [.st 5]) (z4 : HL tabT [.st 0, .int .i64]) => cond (Res.eqb y3.1.res z4.1) (some (1, (z4.1, y3.1.mode, ()))) (some (0, (z4.1, z4.2.1, ())))) = f
    have key : ∀ (l : List Queue) (k : Nat), (runL (fun _ (q : Queue) (_ : Unit) => if !decide (heldL q.holders t = 0) && Res.eqb q.res x then .inl (some (f, 1, (x, heldL q.holders t, ()))) else .inr ()) (fun _ => some (f, 0, (x, 0, ()))) l k ()).bind (fun y5 => sel y5.2.1 [some 0, some y5.2.2.2.1, some 0]) = some (modeC t x l) := by
      intro l
      induction l with
      | nil => intro k; rfl
      | cons q r ih =>
        intro k
        rw [modeC]
        cases h : !decide (heldL q.holders t = 0) && Res.eqb q.res x with
        | true => simp only [runL, h, if_true]; rfl
        | false => simp only [runL, h, Bool.false_eq_true, if_false]; exact ih (k + 1)
    rw [← key o.queues 0]
    congr 1
    unfold locks_own_1_fyd0
    show locks_own_1_fyd0_l1 n n (t, o.queues, (o.queues.length : Int), ((0 : Nat) : Int), f, 0, (x, 0, ()), ()) = _
    unfold locks_own_1_fyd0_l1
    rw [run_loop o.queues (fun i (_ : Unit) => (t, o.queues, (o.queues.length : Int), (i : Int), f, 0, (x, 0, ()), ())) (fun _ q _ => if !decide (heldL q.holders t = 0) && Res.eqb q.res x then .inl (some (f, 1, (x, heldL q.holders t, ()))) else .inr ()) (fun _ => some (f, 0, (x, 0, ()))) ?_ ?_ n 0 () (Nat.zero_le _) (by omega)]
    · rw [List.drop_zero]
    · intro r i s q hx hi
      simp only [lt_dec hi, cond_true, idx_nat, hx, Option.bind_some, held_eq n hn q (hs q (List.mem_of_getElem? hx)).1, ibne, wrap_succ (show i < 4611686018427387904 by omega)]
      cases decide (heldL q.holders t = 0) with
      | true => rfl
      | false =>
        simp only [Bool.not_false, cond_true, callY, ← hf, Bool.true_and]
        cases Res.eqb q.res x <;> rfl
    · intro r s
      simp only [ge_dec (Nat.lt_irrefl _), cond_false]
theorem rmodeC_eq (n : Nat) (hn : 1003 ≤ n) (o : Locks) (hs : SmallL o.queues) (hq : o.queues.length ≤ 1000) (t : Int) (x : Res) : ref08_Mode n o t x = some (modeD t x o.queues) := by
  unfold ref08_Mode
  show ref08_Mode_l1 n n (t, o.queues, (o.queues.length : Int), ((0 : Nat) : Int), x, ()) = _
  unfold ref08_Mode_l1
  have key : ∀ (l : List Queue) (k : Nat), runL (fun _ (q : Queue) (_ : Unit) => if Res.eqb q.res x then .inl (some (heldL q.holders t)) else .inr ()) (fun _ => some 0) l k () = some (modeD t x l) := by
    intro l
    induction l with
    | nil => intro k; rfl
    | cons q r ih =>
      intro k
      rw [modeD]
      cases h : Res.eqb q.res x with
      | true => simp only [runL, h, if_true]
      | false => simp only [runL, h, Bool.false_eq_true, if_false]; exact ih (k + 1)
  rw [run_loop o.queues (fun i (_ : Unit) => (t, o.queues, (o.queues.length : Int), (i : Int), x, ())) (fun _ q _ => if Res.eqb q.res x then .inl (some (heldL q.holders t)) else .inr ()) (fun _ => some 0) ?_ ?_ n 0 () (Nat.zero_le _) (by omega)]
  · rw [List.drop_zero]; exact key _ 0
  · intro r i s q hx hi
    simp only [lt_dec hi, cond_true, idx_nat, hx, Option.bind_some, rheld_eq n hn q (hs q (List.mem_of_getElem? hx)).1, wrap_succ (show i < 4611686018427387904 by omega)]
    cases Res.eqb q.res x <;> rfl
  · intro r s
    simp only [ge_dec (Nat.lt_irrefl _), cond_false]
end Go.Proofs.YtndehfninoimgaaGreat

/- Layer 8 (locks): what is done with a copy. -/
namespace Go.Proofs.YtndehfninoimgaaGreat
open Go.Bur
set_option linter.unusedSimpArgs false
set_option linter.unusedVariables false
set_option maxRecDepth 100000

theorem cloneQ (n : Nat) (l : List Queue) (hl : l.length ≤ 1000) : slices_Clone_Queue n l = some l := clone_eq (by omega) (by omega)
theorem cloneH (n : Nat) (l : List Hold) (hl : l.length ≤ 1000) : slices_Clone_Hold n l = some l := clone_eq (by omega) (by omega)
theorem cloneW (n : Nat) (l : List Wait) (hl : l.length ≤ 1000) : slices_Clone_Wait n l = some l := clone_eq (by omega) (by omega)
theorem idxM_at {α : Type} {l : List α} {i : Nat} {x : α} (h : l[i]? = some x) : idxM l (i : Int) i = some x := by
  unfold idxM
  rw [if_pos rfl, idx_nat, h]
theorem sameI_at (i : Int) : sameI i i = some () := by
  unfold sameI
  rw [if_pos rfl]
theorem sameN_at (i : Nat) : sameN i i = some () := by
  unfold sameN
  rw [if_pos rfl]
theorem set_mk {qs : List Queue} {i : Nat} {q : Queue} (h : qs[i]? = some q) : List.set qs (Int.toNat (i : Int)) (Queue.mk q.res q.holders q.waiters) = qs := by
  rw [Int.toNat_natCast]
  exact set_same h
theorem with56 (n : Nat) (hn : 1003 ≤ n) (o : Locks) (hs : SmallL o.queues) (hq : o.queues.length ≤ 1000) (t : Int) (r : Res) (m a b : Int) :
    locks_with_f56 n o t r m a b = if lockB o.queues then (if txnB t then (locks_Ask_1 n o.queues r m a b).bind fun y => cond (y.1 != 0) (some (Locks.mk [], y.1, y.2.1, y.2.2.1, y.2.2.2.1, y.2.2.2.2.1)) (some (Locks.mk y.2.2.2.2.2, 0, y.2.1, y.2.2.1, y.2.2.2.1, y.2.2.2.2.1)) else some (Locks.mk [], 2, r, m, a, b)) else some (Locks.mk [], 180, r, m, a, b) := by
  unfold locks_with_f56
  rw [check_eq n hn o hs, Option.bind_some]
  cases hl : lockB o.queues with
  | false => rfl
  | true =>
    simp only [if_true, bne_self_eq_false, cond_false, txn_eq, Option.bind_some, cloneQ n _ hq]
    cases ht : txnB t with
    | false => rfl
    | true =>
      simp only [Bool.not_true, cond_false, if_true]
      show locks_with_f56_l1 n n ((o.queues.length : Int), ((0 : Nat) : Int), r, m, a, b, Locks.mk [], 0, o.queues, ()) = _
      unfold locks_with_f56_l1
      rw [run_loop o.queues (fun i (_ : Unit) => ((o.queues.length : Int), (i : Int), r, m, a, b, Locks.mk [], i, o.queues, ())) (fun _ _ s => .inr s) (fun _ => (locks_Ask_1 n o.queues r m a b).bind fun y => cond (y.1 != 0) (some (Locks.mk [], y.1, y.2.1, y.2.2.1, y.2.2.2.1, y.2.2.2.2.1)) (some (Locks.mk y.2.2.2.2.2, 0, y.2.1, y.2.2.1, y.2.2.2.1, y.2.2.2.2.1))) ?_ ?_ n 0 () (Nat.zero_le _) (by omega)]
      · rw [List.drop_zero, runL_skip]
      · intro r2 i s q hx hi
        have hqq := hs q (List.mem_of_getElem? hx)
        simp only [lt_dec hi, cond_true, idxM_at hx, Option.bind_some, sameI_at, cloneH n _ hqq.1, cloneW n _ hqq.2, set_mk hx, wrap_succ (show i < 4611686018427387904 by omega)]
      · intro r2 s
        simp only [ge_dec (Nat.lt_irrefl _), cond_false, sameN_at, Option.bind_some]
theorem with66 (n : Nat) (hn : 1003 ≤ n) (o : Locks) (hs : SmallL o.queues) (hq : o.queues.length ≤ 1000) (t a : Int) (b : List Int) :
    locks_with_f66 n o t a b = if lockB o.queues then (if txnB t then (locks_Release_1 n o.queues a b).bind fun y => cond (y.1 != 0) (some (Locks.mk [], y.1, y.2.1, y.2.2.1)) (some (Locks.mk y.2.2.2, 0, y.2.1, y.2.2.1)) else some (Locks.mk [], 2, a, b)) else some (Locks.mk [], 180, a, b) := by
  unfold locks_with_f66
  rw [check_eq n hn o hs, Option.bind_some]
  cases hl : lockB o.queues with
  | false => rfl
  | true =>
    simp only [if_true, bne_self_eq_false, cond_false, txn_eq, Option.bind_some, cloneQ n _ hq]
    cases ht : txnB t with
    | false => rfl
    | true =>
      simp only [Bool.not_true, cond_false, if_true]
      show locks_with_f66_l1 n n ((o.queues.length : Int), ((0 : Nat) : Int), a, b, Locks.mk [], 0, o.queues, ()) = _
      unfold locks_with_f66_l1
      rw [run_loop o.queues (fun i (_ : Unit) => ((o.queues.length : Int), (i : Int), a, b, Locks.mk [], i, o.queues, ())) (fun _ _ s => .inr s) (fun _ => (locks_Release_1 n o.queues a b).bind fun y => cond (y.1 != 0) (some (Locks.mk [], y.1, y.2.1, y.2.2.1)) (some (Locks.mk y.2.2.2, 0, y.2.1, y.2.2.1))) ?_ ?_ n 0 () (Nat.zero_le _) (by omega)]
      · rw [List.drop_zero, runL_skip]
      · intro r2 i s q hx hi
        have hqq := hs q (List.mem_of_getElem? hx)
        simp only [lt_dec hi, cond_true, idxM_at hx, Option.bind_some, sameI_at, cloneH n _ hqq.1, cloneW n _ hqq.2, set_mk hx, wrap_succ (show i < 4611686018427387904 by omega)]
      · intro r2 s
        simp only [ge_dec (Nat.lt_irrefl _), cond_false, sameN_at, Option.bind_some]
theorem ask_step {n : Nat} (hn : 1003 ≤ n) {o : Locks} (hs : SmallL o.queues) (hq : o.queues.length ≤ 1000) {t m m' t' w : Int} {r r' : Res} {qs : List Queue} (hl : lockB o.queues = true) (ht : txnB t = true) (h : locks_Ask_1 n o.queues r m t 0 = some (0, r', m', t', w, qs)) : locks_Ask n o t r m = some (Locks.mk qs, w, 0) := by
  unfold locks_Ask
  rw [with56 n hn o hs hq, if_pos hl, if_pos ht, h]
  rfl
theorem release_step {n : Nat} (hn : 1003 ≤ n) {o : Locks} (hs : SmallL o.queues) (hq : o.queues.length ≤ 1000) {t t' : Int} {g : List Int} {qs : List Queue} (hl : lockB o.queues = true) (ht : txnB t = true) (h : locks_Release_1 n o.queues t [] = some (0, t', g, qs)) : locks_Release n o t = some (Locks.mk qs, g, 0) := by
  unfold locks_Release
  rw [with66 n hn o hs hq, if_pos hl, if_pos ht, h]
  rfl
end Go.Proofs.YtndehfninoimgaaGreat

/- Layer 8 (locks): the law LocksTells. -/
namespace Go.Proofs.YtndehfninoimgaaGreat
open Go.Bur
set_option linter.unusedSimpArgs false
set_option linter.unusedVariables false
set_option maxRecDepth 100000

/-! ### Few -/
def cutQ (q : Queue) : Queue := Queue.mk q.res (q.holders.take 20) (q.waiters.take 20)
def fewL (qs : List Queue) : List Queue := (qs.take 501).map cutQ
theorem few_small (qs : List Queue) : SmallM (fewL qs) := fun q hq => by
  obtain ⟨p, _, rfl⟩ := List.mem_map.1 hq
  constructor
  · show (p.holders.take 20).length ≤ 30
    rw [List.length_take]; omega
  · show (p.waiters.take 20).length ≤ 30
    rw [List.length_take]; omega
theorem few_len (qs : List Queue) : (fewL qs).length ≤ 501 := by
  unfold fewL
  rw [List.length_map, List.length_take]; omega
theorem few_ids {qs : List Queue} (h : IdIn qs) : IdIn (fewL qs) := fun q hq => by
  obtain ⟨p, hp, rfl⟩ := List.mem_map.1 hq
  exact h p (List.mem_of_mem_take hp)
theorem sub20 {α : Type} (l : List α) : sub l 0 (if 20 < (l.length : Int) then 20 else (l.length : Int)) = some (l.take 20) := by
  by_cases h : 20 < (l.length : Int)
  · rw [if_pos h]
    have := sub_ok (l := l) (a := 0) (b := 20) (Nat.zero_le _) (by omega)
    simpa using this
  · rw [if_neg h]
    have := sub_ok (l := l) (a := 0) (b := l.length) (Nat.zero_le _) (Nat.le_refl _)
    rw [List.take_of_length_le (show l.length ≤ 20 by omega)]
    simpa using this
theorem foldl_appG {α β : Type} {f : α → β} : ∀ {l : List α} {s : List β}, l.foldl (fun s x => s ++ [f x]) s = s ++ l.map f
  | [], s => by simp
  | x :: l, s => by rw [List.foldl_cons, foldl_appG]; simp
theorem few_eq (n : Nat) (hn : 1003 ≤ n) (x : Locks) : law08_few n x = some (Locks.mk (fewL x.queues)) := by
  unfold law08_few
  simp only [jn]
  show law08_few_l2 n (law08_few_j1 n) n (x.queues, (x.queues.length : Int), ((0 : Nat) : Int), Locks.mk [], [], ()) = _
  unfold law08_few_l2
  have htl : (x.queues.take 501).length = min 501 x.queues.length := List.length_take
  rw [run_loopI (x.queues.take 501) (fun i (s : List Queue) => (x.queues, (x.queues.length : Int), (i : Int), Locks.mk [], s, ())) (fun _ q s => .inr (s ++ [cutQ q])) (fun s => some (Locks.mk s)) (fun i s => s.length ≤ i) ?_ ?_ ?_ n 0 [] (Nat.zero_le _) (by omega) (Nat.le_refl _)]
  · rw [List.drop_zero, runL_fold (g := fun q s => s ++ [cutQ q]), foldl_appG]; rfl
  · intro i s q s' hx hI he
    cases he
    simp; omega
  · intro r i s q hx hi hI
    have hi1 : i < 501 := by omega
    have hi2 : i < x.queues.length := by omega
    have hq : x.queues[i]? = some q := by rw [← hx, List.getElem?_take_of_lt hi1]
    simp only [lt_dec hi2, cond_true, idx_nat, hq, Option.bind_some, decide_eq_false (show ¬ (i : Int) > 500 by omega), cond_false, sub20]
    have h1 : app 16 ([] : List Hold) (q.holders.take 20) = some (q.holders.take 20) := by rw [app_lt (by simp [List.length_take]; omega) (by omega), List.nil_append]
    have h2 : app 24 ([] : List Wait) (q.waiters.take 20) = some (q.waiters.take 20) := by rw [app_lt (by simp [List.length_take]; omega) (by omega), List.nil_append]
    have h3 : app 64 s [Queue.mk q.res (q.holders.take 20) (q.waiters.take 20)] = some (s ++ [cutQ q]) := app_lt (by simp; omega) (by omega)
    simp only [h1, h2, h3, Option.bind_some, wrap_succ (show i < 4611686018427387904 by omega)]
  · intro r s hI
    rw [htl]
    by_cases h : x.queues.length ≤ 501
    · rw [Nat.min_eq_right h]
      simp only [ge_dec (Nat.lt_irrefl _), cond_false]; rfl
    · rw [Nat.min_eq_left (by omega)]
      simp only [lt_dec (show 501 < x.queues.length by omega), cond_true, idx_nat, get_some (show 501 < x.queues.length by omega), Option.bind_some]
      rfl

/-! ### The layer does something -/
def rW : Res := Res.mk 0 true 7
def lW3 : Locks := Locks.mk [Queue.mk rW [Hold.mk 1 3, Hold.mk 2 3] [Wait.mk 1 5 3]]
def lW1 : Locks := Locks.mk [Queue.mk rW [Hold.mk 1 3] []]
def lW2 : Locks := Locks.mk [Queue.mk rW [Hold.mk 1 3, Hold.mk 2 3] []]
theorem small0 : SmallL (Locks.mk []).queues := fun q hq => by cases hq
theorem small1 {q : Queue} (h : q.holders.length ≤ 1000 ∧ q.waiters.length ≤ 1000) : SmallL (Locks.mk [q]).queues := fun p hp => by
  rw [List.mem_singleton.1 hp]; exact h
theorem wakesL (n : Nat) (hn : 3003 ≤ n) : law08_wakes n = some true := by
  obtain ⟨m, rfl⟩ : ∃ m, n = m + 3003 := ⟨n - 3003, by omega⟩
  have h1 : locks_Ask (m + 3003) (Locks.mk []) 1 rW 3 = some (lW1, 2, 0) := ask_step (r' := rW) (m' := 3) (t' := 1) (by omega) small0 (by decide) (by kernel_rfl) (by kernel_rfl) (by kernel_rfl)
  have h2 : locks_Ask (m + 3003) lW1 2 rW 3 = some (lW2, 2, 0) := ask_step (r' := rW) (m' := 3) (t' := 2) (by omega) (small1 ⟨by decide, by decide⟩) (by decide) (by kernel_rfl) (by kernel_rfl) (by kernel_rfl)
  have h3 : locks_Ask (m + 3003) lW2 1 rW 6 = some (lW3, 3, 0) := ask_step (r' := rW) (m' := 6) (t' := 1) (by omega) (small1 ⟨by decide, by decide⟩) (by decide) (by kernel_rfl) (by kernel_rfl) (by kernel_rfl)
  have hsm : SmallL lW3.queues := small1 ⟨by decide, by decide⟩
  have hl3 : lockB lW3.queues = true := by kernel_rfl
  have h4 : locks_Blockers (m + 3003) lW3 1 = some [2] := by
    rw [blockers_eq _ (by omega) lW3 hsm (by decide)]
    congr 1
    have hb : blkL lW3.queues 1 = cpZ (sortZ [2]) := by
      unfold blkL
      have ho : occQ 1 0 lW3.queues = some (0, Queue.mk rW [Hold.mk 1 3, Hold.mk 2 3] [Wait.mk 1 5 3], 0, Wait.mk 1 5 3) := by kernel_rfl
      rw [ho, hl3]
      rfl
    rw [hb]
    exact up_ext (cp_sort _).1 (by simp) fun x => (cp_sort [2]).2 x
  have h5 : locks_Release (m + 3003) lW3 2 = some (Locks.mk [Queue.mk rW [Hold.mk 1 5] []], [1], 0) := release_step (t' := 2) (by omega) hsm (by decide) hl3 (by kernel_rfl) (by kernel_rfl)
  unfold law08_wakes
  show (locks_Ask (m + 3003) (Locks.mk []) 1 rW 3).bind _ = _
  rw [h1, Option.bind_some]
  show (locks_Ask (m + 3003) lW1 2 rW 3).bind _ = _
  rw [h2, Option.bind_some]
  show (locks_Ask (m + 3003) lW2 1 rW 6).bind _ = _
  rw [h3, Option.bind_some]
  show (locks_Blockers (m + 3003) lW3 1).bind _ = _
  rw [h4, Option.bind_some]
  show (locks_Release (m + 3003) lW3 2).bind _ = _
  rw [h5, Option.bind_some]
  clear h1 h2 h3 h4 h5
  kernel_rfl

/-! ### The law -/
def waitB (qs : List Queue) (t : Int) : Res × Int × Bool := match occQ t 0 qs with
  | some (_, q, _, w) => (q.res, w.mode, true)
  | none => (Res.mk 0 false 0, 0, false)
theorem waitsD_eq (n : Nat) (hn : 1003 ≤ n) (o : Locks) (hs : SmallL o.queues) (hq : o.queues.length ≤ 1000) (t : Int) : locks_Waits n o t = some (if lockB o.queues then waitB o.queues t else (Res.mk 0 false 0, 0, false)) := by
  rw [waitsC_eq n hn o hs hq t]
  unfold waitB
  cases occQ t 0 o.queues with
  | none => cases lockB o.queues <;> rfl
  | some x => cases lockB o.queues <;> rfl
theorem blkL_no {qs : List Queue} (h : lockB qs = false) (t : Int) : blkL qs t = [] := by
  unfold blkL
  split
  · rw [h]; rfl
  · rfl
theorem sameInts_refl (n : Nat) (a : List Int) (ha : a.length < n) (hb : a.length ≤ 1000) : ref08_SameInts n a a = some true := by
  unfold ref08_SameInts
  rw [bne_self_eq_false]
  show ref08_SameInts_l1 n n (a, a, (a.length : Int), ((0 : Nat) : Int), ()) = _
  unfold ref08_SameInts_l1
  rw [run_loop a (fun i (_ : Unit) => (a, a, (a.length : Int), (i : Int), ())) (fun _ _ s => .inr s) (fun _ => some true) ?_ ?_ n 0 () (Nat.zero_le _) ha]
  · rw [List.drop_zero, runL_skip]
  · intro r i s x hx hi
    simp only [lt_dec hi, cond_true, idx_nat, hx, Option.bind_some, bne_self_eq_false, cond_false, wrap_succ (show i < 4611686018427387904 by omega)]
  · intro r s
    simp only [ge_dec (Nat.lt_irrefl _), cond_false]
theorem blkL_len8 {qs : List Queue} (hs : SmallM qs) (t : Int) : (blkL qs t).length ≤ 60 := by
  unfold blkL
  split
  · rename_i i q b w e
    obtain ⟨⟨j, _, hj⟩, _, _⟩ := occQ_some e
    have hq := hs q (List.mem_of_getElem? hj)
    split
    · refine Nat.le_trans (cpZ_len _) ?_
      rw [sortZ_len]
      exact blk_len hq.1 hq.2
    · simp
  · simp
section
variable (n : Nat) (hn : 1000003 ≤ n) (ls : List Locks) (ts : List Int) (xs : List Res) (hx : xs.length < n) (l : Locks) (hs : SmallM l.queues) (hq : l.queues.length ≤ 1000) (L i : Int)
include hn hx hs hq
theorem tells7 (hxl : xs.length ≤ 9223372036854775807) (r : (List Locks) × (List Int) × (List Res) × Bool × (List Locks) × Int × Int × (List Int) × Int × Int × Locks × Unit → Option Bool) (t Lt : Int) (k : Nat) (hk : k ≤ 1000) :
    law08_LocksTells_l7 n r n (ls, ts, xs, lockB l.queues, t, ls, L, i, ts, Lt, (k : Int), xs, (xs.length : Int), 0, l, ()) = r (ls, ts, xs, lockB l.queues, ls, L, i, ts, Lt, ((k + 1 : Nat) : Int), l, ()) := by
  show law08_LocksTells_l7 n r n (ls, ts, xs, lockB l.queues, t, ls, L, i, ts, Lt, (k : Int), xs, (xs.length : Int), ((0 : Nat) : Int), l, ()) = _
  unfold law08_LocksTells_l7
  rw [run_loop xs (fun j (_ : Unit) => (ls, ts, xs, lockB l.queues, t, ls, L, i, ts, Lt, (k : Int), xs, (xs.length : Int), (j : Int), l, ())) (fun _ _ s => .inr s) (fun _ => r (ls, ts, xs, lockB l.queues, ls, L, i, ts, Lt, ((k + 1 : Nat) : Int), l, ())) ?_ ?_ n 0 () (Nat.zero_le _) hx]
  · rw [List.drop_zero, runL_skip]
  · intro r2 j s x hxj hj
    have hwj : IntKind.wrap .i64 ((j : Int) + 1) = ((j + 1 : Nat) : Int) := by rw [wrap_in (by omega)]; omega
    simp only [lt_dec hj, cond_true, idx_nat, hxj, Option.bind_some, jn, rmodeC_eq n (by omega) l hs.l hq, law08_LocksTells_j8, modeC_eq n (by omega) l hs.l hq, hwj]
    cases hl : lockB l.queues with
    | false =>
      simp only [cond_false, Bool.false_eq_true, if_false, bne_self_eq_false]
      cases decide ((j : Int) < 8) <;> rfl
    | true =>
      simp only [cond_true, if_true, modeCD (lock_srt hl), bne_self_eq_false, cond_false]
      cases decide ((j : Int) < 8) <;> rfl
  · intro r2 s
    simp only [ge_dec (Nat.lt_irrefl _), cond_false, wrap_succ (show k < 4611686018427387904 by omega)]
theorem tells6 (hxl : xs.length ≤ 9223372036854775807) (r : (List Locks) × (List Int) × (List Res) × Bool × (List Locks) × Int × Int × (List Int) × Int × Int × Locks × Unit → Option Bool) (t Lt : Int) (k : Nat) (hk : k ≤ 1000) (A : List Lock) (hA : A.length ≤ 1000) :
    law08_LocksTells_l6 n r n (ls, ts, xs, lockB l.queues, t, ls, L, i, ts, Lt, (k : Int), (A.length : Int), 0, l, A, A, ()) = r (ls, ts, xs, lockB l.queues, ls, L, i, ts, Lt, ((k + 1 : Nat) : Int), l, ()) := by
  show law08_LocksTells_l6 n r n (ls, ts, xs, lockB l.queues, t, ls, L, i, ts, Lt, (k : Int), (A.length : Int), ((0 : Nat) : Int), l, A, A, ()) = _
  unfold law08_LocksTells_l6
  rw [run_loop A (fun j (_ : Unit) => (ls, ts, xs, lockB l.queues, t, ls, L, i, ts, Lt, (k : Int), (A.length : Int), (j : Int), l, A, A, ())) (fun _ _ s => .inr s) (fun _ => r (ls, ts, xs, lockB l.queues, ls, L, i, ts, Lt, ((k + 1 : Nat) : Int), l, ())) ?_ ?_ n 0 () (Nat.zero_le _) (by omega)]
  · rw [List.drop_zero, runL_skip]
  · intro r2 j s x hxj hj
    have he : Lock.eqb x x = true := by simp [Lock.eqb]
    simp only [lt_dec hj, cond_true, idx_nat, hxj, Option.bind_some, he, Bool.not_true, cond_false, wrap_succ (show j < 4611686018427387904 by omega)]
  · intro r2 s
    simp only [ge_dec (Nat.lt_irrefl _), cond_false]
    exact tells7 n hn ls ts xs hx l hs hq L i hxl r t Lt k hk
theorem tells4 (hxl : xs.length ≤ 9223372036854775807) (J : (List Locks) × (List Int) × (List Res) × (List Locks) × Int × Int × Unit → Option Bool) :
    law08_LocksTells_l4 n J n (ls, ts, xs, lockB l.queues, ls, L, i, ts, (ts.length : Int), 0, l, ()) = J (ls, ts, xs, ls, L, i, ()) := by
  show law08_LocksTells_l4 n J n (ls, ts, xs, lockB l.queues, ls, L, i, ts, (ts.length : Int), ((0 : Nat) : Int), l, ()) = _
  unfold law08_LocksTells_l4
  refine loop_to (J (ls, ts, xs, ls, L, i, ())) (min 10 ts.length) (fun k (_ : Unit) => (ls, ts, xs, lockB l.queues, ls, L, i, ts, (ts.length : Int), (k : Int), l, ())) (fun _ _ => True) ?_ ?_ n 0 () (Nat.zero_le _) (by omega) trivial
  · intro r k _ hk _
    right
    refine ⟨(), ?_, trivial⟩
    have hk2 : k < ts.length := by omega
    have h10 : ((k : Int) == 10) = false := by rw [ibeq]; exact decide_eq_false (by omega)
    generalize ht : ts[k] = t
    have htk : ts[k]? = some t := by rw [get_some hk2, ht]
    have hres : ∀ a : Res, Res.eqb a a = true := fun a => by simp [Res.eqb]
    have hL := ownL8_len (t := t) (qs := l.queues)
    have hB := blkL_len8 hs t
    have e6 := fun A hA => tells6 n hn ls ts xs hx l hs hq L i hxl r t (ts.length : Int) k (by omega) A hA
    simp only [lt_dec hk2, cond_true, idx_nat, htk, Option.bind_some, h10, cond_false, waitsD_eq n (by omega) l hs.l hq, holdsC_eq n (by omega) l hs.l hq, blockers_eq n (by omega) l hs.l hq, jn]
    cases hl : lockB l.queues with
    | false =>
      simp only [hl] at e6
      simp only [cond_false, Bool.false_eq_true, if_false, blkL_no hl, law08_LocksTells_j5, jn, hres, Bool.not_true, bne_self_eq_false, beq_self_eq_true, sameInts_refl n [] (by simp; omega) (by simp), Option.bind_some]
      exact e6 [] (by simp)
    | true =>
      simp only [hl] at e6
      simp only [cond_true, if_true, rwaitsC_eq n (by omega) l hs.l hq, rholdsC_eq n (by omega) l hs.l hq, rblockers_eq n hn l hs hl, law08_LocksTells_j5, jn, Option.bind_some, sameInts_refl n (blkL l.queues t) (by omega) (by omega), Bool.not_true, cond_false, bne_self_eq_false]
      show (cond (!Res.eqb (waitB l.queues t).1 (waitB l.queues t).1) _ _) = _
      rw [hres]
      simp only [Bool.not_true, cond_false]
      show (cond ((waitB l.queues t).2.1 != (waitB l.queues t).2.1) _ _) = _
      rw [bne_self_eq_false]
      simp only [cond_false]
      show (cond (!((waitB l.queues t).2.2 == (waitB l.queues t).2.2)) _ _) = _
      rw [beq_self_eq_true]
      exact e6 (ownL8 l.queues t) (by omega)
  · intro r _ _
    by_cases h : ts.length ≤ 10
    · rw [Nat.min_eq_right h]
      simp only [ge_dec (Nat.lt_irrefl _), cond_false]
    · rw [Nat.min_eq_left (by omega)]
      simp only [lt_dec (show 10 < ts.length by omega), cond_true, idx_nat, get_some (show 10 < ts.length by omega), Option.bind_some]
      rfl
end
theorem plainLocksTells (ls : List Locks) (ts : List Int) (xs : List Res) (h1 : okT tab 9 (.sl (.st 4)) ls) (h2 : okT tab 9 (.sl (.int .i64)) ts) (h3 : okT tab 9 (.sl (.st 0)) xs) : ∃ n, law08_LocksTells n ls ts xs = some true := by
  obtain ⟨n, hn, hx⟩ : ∃ n, 1000003 ≤ n ∧ xs.length < n := ⟨1000003 + xs.length, by omega, by omega⟩
  refine ⟨n, ?_⟩
  have hxl : xs.length ≤ 9223372036854775807 := by
    have h : xs.length ≤ maxLen := h3.2
    unfold maxLen at h
    omega
  unfold law08_LocksTells
  simp only [wakesL n (by omega), Option.bind_some, Bool.not_true, cond_false, jn]
  show law08_LocksTells_l2 n (law08_LocksTells_j1 n) n (ls, ts, xs, ls, (ls.length : Int), ((0 : Nat) : Int), ()) = _
  unfold law08_LocksTells_l2
  refine loop_to (some true) (min 5 ls.length) (fun i (_ : Unit) => (ls, ts, xs, ls, (ls.length : Int), (i : Int), ())) (fun _ _ => True) ?_ ?_ n 0 () (Nat.zero_le _) (by omega) trivial
  · intro r i _ hi _
    right
    refine ⟨(), ?_, trivial⟩
    have hi2 : i < ls.length := by omega
    have h5 : ((i : Int) == 5) = false := by rw [ibeq]; exact decide_eq_false (by omega)
    have h0 : idx ls 0 = some ls[0] := by rw [show (0 : Int) = ((0 : Nat) : Int) from rfl, idx_nat, get_some (by omega)]
    have hid : IdIn ls[i].queues := fun q hq => by
      obtain ⟨a, b⟩ : inI .u16 q.res.id := ((h1.1 _ (List.getElem_mem hi2)).1.1 q hq).2.2.1
      have a : 0 ≤ q.res.id := a
      have b : q.res.id ≤ 65535 := b
      omega
    generalize hxx : ls[i] = x at hid
    have hxi : ls[i]? = some x := by rw [get_some hi2, hxx]
    have hs := few_small x.queues
    have hq := few_len x.queues
    have e4 := tells4 n hn ls ts xs hx (Locks.mk (fewL x.queues)) hs (show (fewL x.queues).length ≤ 1000 by omega) (ls.length : Int) (i : Int) hxl (law08_LocksTells_j3 n r)
    simp only [lt_dec hi2, cond_true, idx_nat, hxi, Option.bind_some, h5, cond_false, few_eq n (by omega), h0, rright_eq n (by omega) (Locks.mk (fewL x.queues)) hs.l (few_ids hid), check_eq n (by omega) (Locks.mk (fewL x.queues)) hs.l, same_eq n (by omega) (Locks.mk (fewL x.queues)) _ hs.l (show (fewL x.queues).length ≤ 1000 by omega), rsame_eq n (by omega) (Locks.mk (fewL x.queues)) _ hs.l (show (fewL x.queues).length ≤ 1000 by omega), beq_self_eq_true, Bool.not_true, eqL_refl qE_refl, jn, e4, law08_LocksTells_j3, wrap_succ (show i < 4611686018427387904 by omega)]
    cases lockB (fewL x.queues) <;> rfl
  · intro r _ _
    by_cases h : ls.length ≤ 5
    · rw [Nat.min_eq_right h]
      simp only [ge_dec (Nat.lt_irrefl _), cond_false]; rfl
    · rw [Nat.min_eq_left (by omega)]
      simp only [lt_dec (show 5 < ls.length by omega), cond_true, idx_nat, get_some (show 5 < ls.length by omega), Option.bind_some]
      rfl
end Go.Proofs.YtndehfninoimgaaGreat
