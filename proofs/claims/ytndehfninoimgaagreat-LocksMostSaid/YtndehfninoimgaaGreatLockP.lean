import Derived.Test.YtndehfninoimgaaGreatLockI
namespace Go.Proofs.YtndehfninoimgaaGreat
open Go.Bur
set_option linter.unusedSimpArgs false
set_option linter.unusedVariables false
set_option maxRecDepth 100000
def supM (a b : Int) : Int := if coversB a b then a else if coversB b a then b else if (a = 2 ∧ b = 3) ∨ (a = 3 ∧ b = 2) then 4 else 5
def ofM (r : Res) (m : Int) : Bool := if r.isKey then keyM m else tabM m
theorem modeB_iff {r : Res} {m : Int} : modeB r m = true ↔ m ≠ 0 ∧ ofM r m = true := by
  unfold modeB ofM
  rw [Bool.and_eq_true, Bool.not_eq_true', decide_eq_false_iff_not]
theorem ofM_zero (r : Res) : ofM r 0 = true := by
  unfold ofM
  cases r.isKey <;> decide
theorem sup_eq (n : Nat) (hn : 40 ≤ n) {r : Res} {a b : Int} (ha : ofM r a = true) (hb : ofM r b = true) : mode_Sup n a b = some (supM a b, 0) := by
  obtain ⟨n, rfl⟩ : ∃ m, n = m + 40 := ⟨n - 40, by omega⟩
  unfold ofM at ha hb
  cases hk : r.isKey with
  | true =>
    rw [hk, if_pos rfl] at ha hb
    have ha : a = 0 ∨ a = 3 ∨ a = 5 ∨ a = 6 := of_decide_eq_true ha
    have hb : b = 0 ∨ b = 3 ∨ b = 5 ∨ b = 6 := of_decide_eq_true hb
    clear hk
    rcases ha with rfl | rfl | rfl | rfl <;> rcases hb with rfl | rfl | rfl | rfl <;> (show mode_Sup (n + 40) _ _ = some _; kernel_rfl)
  | false =>
    rw [hk, if_neg (by decide)] at ha hb
    unfold tabM at ha hb
    rw [Bool.and_eq_true, Bool.not_eq_true', decide_eq_false_iff_not] at ha hb
    rcases isM_cases ha.1 with rfl | rfl | rfl | rfl | rfl | rfl | rfl <;> rcases isM_cases hb.1 with rfl | rfl | rfl | rfl | rfl | rfl | rfl <;> first | exact absurd rfl ha.2 | exact absurd rfl hb.2 | kernel_rfl
theorem sup_ok {r : Res} {a b : Int} (ha : ofM r a = true) (hb : ofM r b = true) : ofM r (supM a b) = true ∧ coversB (supM a b) a = true ∧ coversB (supM a b) b = true := by
  unfold ofM at *
  cases hk : r.isKey with
  | true =>
    rw [hk, if_pos rfl] at ha hb
    have ha : a = 0 ∨ a = 3 ∨ a = 5 ∨ a = 6 := of_decide_eq_true ha
    have hb : b = 0 ∨ b = 3 ∨ b = 5 ∨ b = 6 := of_decide_eq_true hb
    rcases ha with rfl | rfl | rfl | rfl <;> rcases hb with rfl | rfl | rfl | rfl <;> decide
  | false =>
    rw [hk, if_neg (by decide)] at ha hb
    unfold tabM at ha hb
    rw [Bool.and_eq_true, Bool.not_eq_true', decide_eq_false_iff_not] at ha hb
    rcases isM_cases ha.1 with rfl | rfl | rfl | rfl | rfl | rfl | rfl <;> rcases isM_cases hb.1 with rfl | rfl | rfl | rfl | rfl | rfl | rfl <;> first | decide | exact absurd rfl ha.2 | exact absurd rfl hb.2
theorem covers_is {a b : Int} (h : coversB a b = true) : isM a = true ∧ isM b = true := by
  unfold coversB at h
  simp only [Bool.and_eq_true] at h
  exact ⟨h.1.1, h.1.2⟩
theorem covers_trans {a b c : Int} (h : coversB a b = true) (k : coversB b c = true) : coversB a c = true := by
  have h1 := covers_is h
  have h2 := covers_is k
  revert h k
  rcases isM_cases h1.1 with rfl | rfl | rfl | rfl | rfl | rfl | rfl <;> rcases isM_cases h1.2 with rfl | rfl | rfl | rfl | rfl | rfl | rfl <;> rcases isM_cases h2.2 with rfl | rfl | rfl | rfl | rfl | rfl | rfl <;> decide
theorem covers_zero {m : Int} (hm : m ≠ 0) : coversB 0 m = false := by
  cases h : coversB 0 m with
  | false => rfl
  | true =>
    have h1 := (covers_is h).2
    revert h hm
    rcases isM_cases h1 with rfl | rfl | rfl | rfl | rfl | rfl | rfl <;> decide
theorem goes_less {a b c : Int} (h : coversB a b = true) (k : goesB a c = true) : goesB b c = true := by
  have h1 := covers_is h
  have h2 : isM c = true := by
    unfold goesB at k
    simp only [Bool.and_eq_true] at k
    exact k.1.2
  revert h k
  rcases isM_cases h1.1 with rfl | rfl | rfl | rfl | rfl | rfl | rfl <;> rcases isM_cases h1.2 with rfl | rfl | rfl | rfl | rfl | rfl | rfl <;> rcases isM_cases h2 with rfl | rfl | rfl | rfl | rfl | rfl | rfl <;> decide
abbrev cQ (r : Res) : Queue → Int := fun q => cR q.res r
theorem cR_cases (a b : Res) : (ltR a b = true ∧ cR a b = -1) ∨ (a = b ∧ cR a b = 0) ∨ (ltR b a = true ∧ cR a b = 1) := by
  have hr : rankR a = rankR b → a.isKey = b.isKey := fun h => by
    unfold rankR at h
    cases ha : a.isKey <;> cases hb : b.isKey <;> simp [ha, hb] at h ⊢
  unfold cR
  rcases cmpT_cases a.table b.table with ⟨h, e⟩ | ⟨h, e⟩ | ⟨h, e⟩
  · left; refine ⟨ltR_iff.2 (.inl h), ?_⟩; rw [e]; rfl
  · rcases cmpT_cases (rankR a) (rankR b) with ⟨h2, e2⟩ | ⟨h2, e2⟩ | ⟨h2, e2⟩
    · left; refine ⟨ltR_iff.2 (.inr ⟨h, .inl h2⟩), ?_⟩; rw [e, e2]; rfl
    · rcases cmpT_cases a.id b.id with ⟨h3, e3⟩ | ⟨h3, e3⟩ | ⟨h3, e3⟩
      · left; refine ⟨ltR_iff.2 (.inr ⟨h, .inr ⟨h2, h3⟩⟩), ?_⟩; rw [e, e2, e3]; rfl
      · right; left
        refine ⟨?_, by rw [e, e2, e3]; rfl⟩
        have hk := hr h2
        cases a; cases b; simp only at h hk h3; subst h hk h3; rfl
      · right; right; refine ⟨ltR_iff.2 (.inr ⟨h.symm, .inr ⟨h2.symm, h3⟩⟩), ?_⟩; rw [e, e2, e3]; rfl
    · right; right; refine ⟨ltR_iff.2 (.inr ⟨h.symm, .inl h2⟩), ?_⟩; rw [e, e2]; rfl
  · right; right; refine ⟨ltR_iff.2 (.inl h), ?_⟩; rw [e]; rfl
theorem cR_lt {a b : Res} (h : cR a b < 0) : ltR a b = true := by rcases cR_cases a b with ⟨h1, _⟩ | ⟨_, h1⟩ | ⟨_, h1⟩ <;> first | exact h1 | omega
theorem cR_zero {a b : Res} (h : cR a b = 0) : a = b := by rcases cR_cases a b with ⟨_, h1⟩ | ⟨h1, _⟩ | ⟨_, h1⟩ <;> first | exact h1 | omega
theorem cR_pos {a b : Res} (h : 0 < cR a b) : ltR b a = true := by rcases cR_cases a b with ⟨_, h1⟩ | ⟨_, h1⟩ | ⟨h1, _⟩ <;> first | exact h1 | omega
theorem ltR_irr' {a : Res} : ltR a a = false := by
  unfold ltR
  exact decide_eq_false (by omega)
theorem ltR_pos {a b : Res} (h : ltR b a = true) : 0 < cR a b := by
  rcases cR_cases a b with ⟨h1, _⟩ | ⟨h1, _⟩ | ⟨_, h1⟩
  · have := ltR_trans _ _ _ h1 h
    rw [ltR_irr'] at this; cases this
  · subst h1
    rw [ltR_irr'] at h; cases h
  · omega
theorem cutQ' {qs : List Queue} (r : Res) (h : qs.Pairwise fun a b => ltQ a b = true) : ∃ A y B, Cut (cQ r) qs A y B := by
  refine cut_ex (h.imp fun {a b} hab ha => ?_)
  refine ltR_pos ?_
  have hab : ltR a.res b.res = true := hab
  rcases cR_cases a.res r with ⟨_, h1⟩ | ⟨h1, _⟩ | ⟨h1, _⟩
  · unfold cQ at ha; omega
  · rw [← h1]; exact hab
  · exact ltR_trans _ _ _ h1 hab
theorem qsearch {n : Nat} (hn : 1003 ≤ n) {l A B : List Queue} {y : Option Queue} {r : Res} (h : Cut (cQ r) l A y B) (hl : l.length ≤ 1000) :
    slices_BinarySearchFunc_Res_f59 n l r = some ((A.length : Int), y.isSome) := by
  have hlen := cut_len h
  have e0 : ∀ q : Queue, locks_Ask_1_1 n q r = some (cQ r q) := fun q => by
    unfold locks_Ask_1_1
    rw [compareR n (by omega)]; rfl
  show slices_BinarySearchFunc_Res_f59_l1 n n (l, (l.length : Int), ((0 : Nat) : Int), (l.length : Int), r, ()) = _
  unfold slices_BinarySearchFunc_Res_f59_l1
  refine bsearch (fun (i j : Nat) => (l, (l.length : Int), (i : Int), (j : Int), r, ())) A.length l.length _ (fun k i j hij hj hA => ?_) (fun k i j hij hj hA => ?_) (fun k => ?_) n 0 l.length (Nat.zero_le _) (by omega) (Nat.le_refl _) (by omega)
  · have e : ((i : Int) + (j : Int)) = ((i + j : Nat) : Int) := by omega
    obtain ⟨e1, e2⟩ := halfH (x := i + j) (by omega)
    have := cut_lt h (show (i + j) / 2 < l.length by omega) hA
    simp only [lt_dec hij, cond_true, e, e1, Option.bind_some, e2, idx_nat, get_some (show (i + j) / 2 < l.length by omega), e0, jn, slices_BinarySearchFunc_Res_f59_j2, decide_eq_true this, wrap_succ (show (i + j) / 2 < 4611686018427387904 by omega)]
  · have e : ((i : Int) + (j : Int)) = ((i + j : Nat) : Int) := by omega
    obtain ⟨e1, e2⟩ := halfH (x := i + j) (by omega)
    have := cut_ge h (show (i + j) / 2 < l.length by omega) hA
    simp only [lt_dec hij, cond_true, e, e1, Option.bind_some, e2, idx_nat, get_some (show (i + j) / 2 < l.length by omega), e0, jn, slices_BinarySearchFunc_Res_f59_j2, decide_eq_false this, cond_false]
  · simp only [ge_dec (Nat.lt_irrefl _), cond_false, jn]
    by_cases hA : A.length < l.length
    · simp only [lt_dec hA, cond_true, idx_nat, get_some hA, Option.bind_some, e0, cut_at h hA]
    · rw [ge_dec hA, cut_end h hA]; rfl
def standW (ws : List Wait) (w : Wait) : List Wait := if w.held = 0 then ws ++ [w] else (ws.filter fun x => !decide (x.held = 0)) ++ w :: ws.filter fun x => decide (x.held = 0)
theorem conv_split : ∀ {ws : List Wait}, (ws.Pairwise fun a b => wR a b = true) → ∃ A B, ws = A ++ B ∧ (∀ x ∈ A, x.held ≠ 0) ∧ ∀ x ∈ B, x.held = 0
  | [], _ => ⟨[], [], rfl, by simp, by simp⟩
  | w :: ws, h => by
    obtain ⟨h1, h2⟩ := List.pairwise_cons.1 h
    by_cases hw : w.held = 0
    · refine ⟨[], w :: ws, rfl, by simp, fun x hx => ?_⟩
      rcases List.mem_cons.1 hx with rfl | hx
      · exact hw
      · exact wR_iff.1 (h1 x hx) hw
    · obtain ⟨A, B, e, ha, hb⟩ := conv_split h2
      refine ⟨w :: A, B, by rw [e]; rfl, fun x hx => ?_, hb⟩
      rcases List.mem_cons.1 hx with rfl | hx
      · exact hw
      · exact ha x hx
theorem stand_split {A B : List Wait} {w : Wait} (ha : ∀ x ∈ A, x.held ≠ 0) (hb : ∀ x ∈ B, x.held = 0) (hw : w.held ≠ 0) : standW (A ++ B) w = A ++ w :: B := by
  unfold standW
  rw [if_neg hw, List.filter_append, List.filter_append]
  have f1 : (A.filter fun x => !decide (x.held = 0)) = A := List.filter_eq_self.2 fun x hx => by simp [ha x hx]
  have f2 : (B.filter fun x => !decide (x.held = 0)) = [] := List.filter_eq_nil_iff.2 fun x hx => by simp [hb x hx]
  have f3 : (A.filter fun x => decide (x.held = 0)) = [] := List.filter_eq_nil_iff.2 fun x hx => by simp [ha x hx]
  have f4 : (B.filter fun x => decide (x.held = 0)) = B := List.filter_eq_self.2 fun x hx => by simp [hb x hx]
  rw [f1, f2, f3, f4]; simp
theorem insL_end (ws : List Wait) (w : Wait) (h : ws.length ≤ 1000) : insL 24 ws (ws.length : Int) [w] = some (ws ++ [w]) := by
  have hc : Cut (fun _ : Wait => (-1 : Int)) ws ws none [] := ⟨by simp, fun _ _ => by decide, nofun, by simp⟩
  exact insL_cut hc w h (by omega)
theorem stands_eq (n : Nat) (hn : 1003 ≤ n) (w : Wait) (a c : Int) (b : Bool) (hs : List Hold) (ws : List Wait) (hl : ws.length ≤ 1000) (hwr : ws.Pairwise fun a b => wR a b = true) : locks_stands n w a b c hs ws = some (a, b, c, hs, standW ws w) := by
  unfold locks_stands
  simp only [locks_conversion, ibne, Option.bind_some, jn]
  by_cases hw : w.held = 0
  · rw [decide_eq_true hw]
    simp only [Bool.not_true, cond_false, locks_stands_j1, slices_Insert_Wait, insL_end ws w hl, Option.bind_some]
    unfold standW
    rw [if_pos hw]
  · rw [decide_eq_false hw]
    obtain ⟨A, B, rfl, ha, hb⟩ := conv_split hwr
    have h1 : slices_IndexFunc_Wait_f107 n (A ++ B) = some (if B = [] then -1 else (A.length : Int)) := by
      unfold slices_IndexFunc_Wait_f107
      show slices_IndexFunc_Wait_f107_l1 n n (A ++ B, ((A ++ B).length : Int), ((0 : Nat) : Int), ()) = _
      unfold slices_IndexFunc_Wait_f107_l1
      rw [run_loop (A ++ B) (fun i (_ : Unit) => (A ++ B, ((A ++ B).length : Int), (i : Int), ())) (fun i x _ => if decide (x.held = 0) then .inl (some (i : Int)) else .inr ()) (fun _ => some (-1)) ?_ ?_ n 0 () (Nat.zero_le _) (by omega)]
      · rw [List.drop_zero, runL_find0 (f := fun i => some (i : Int))]
        have hf : (A ++ B).findIdx? (fun x => decide (x.held = 0)) = if B = [] then none else some A.length := by
          rw [List.findIdx?_append]
          have : A.findIdx? (fun x => decide (x.held = 0)) = none := List.findIdx?_eq_none_iff.2 fun x hx => by simp [ha x hx]
          rw [this]
          cases B with
          | nil => simp
          | cons v B => simp [List.findIdx?_cons, hb v (List.mem_cons_self ..)]
        rw [hf]
        by_cases hB : B = []
        · simp [hB]
        · simp [hB]
      · intro r i s x hx hi
        simp only [lt_dec hi, cond_true, idx_nat, hx, Option.bind_some, locks_stands_1, locks_conversion, ibne, wrap_succ (show i < 4611686018427387904 by omega)]
        cases decide (x.held = 0) <;> rfl
      · intro r s
        simp only [ge_dec (Nat.lt_irrefl _), cond_false]
    have hc : Cut (fun x : Wait => if x.held = 0 then (1 : Int) else -1) (A ++ B) A none B := ⟨by simp, fun x hx => by simp [ha x hx], nofun, fun x hx => by simp [hb x hx]⟩
    have hins : insL 24 (A ++ B) (A.length : Int) [w] = some (A ++ w :: B) := insL_cut hc w hl (by omega)
    simp only [Bool.not_false, cond_true, h1, Option.bind_some, locks_stands_j2, locks_stands_j1, slices_Insert_Wait]
    rw [stand_split ha hb hw]
    by_cases hB : B = []
    · subst hB
      rw [if_pos rfl, decide_eq_false (by omega)]
      simp only [cond_false]
      have := insL_end (A ++ []) w hl
      rw [this]
      simp
    · rw [if_neg hB, decide_eq_true (by omega)]
      simp only [cond_true, hins, Option.bind_some]
end Go.Proofs.YtndehfninoimgaaGreat
namespace Go.Proofs.YtndehfninoimgaaGreat
open Go.Bur
set_option linter.unusedSimpArgs false
set_option linter.unusedVariables false
set_option maxRecDepth 100000
def askNew (q : Queue) (t m : Int) : Int × Queue :=
  if coversB (heldL q.holders t) m then (1, q)
  else if goesL q.holders t (supM (heldL q.holders t) m) && (!decide (heldL q.holders t = 0) || decide (q.waiters.length = 0)) then (2, Queue.mk q.res (insH q.holders t (supM (heldL q.holders t) m)) q.waiters)
  else (3, Queue.mk q.res q.holders (standW q.waiters (Wait.mk t (supM (heldL q.holders t) m) (heldL q.holders t))))
theorem set_app {A B : List Queue} {o x : Queue} : List.set (A ++ o :: B) (Int.toNat (A.length : Int)) x = A ++ x :: B := by
  rw [Int.toNat_natCast, List.set_append_right _ _ (Nat.le_refl _), Nat.sub_self]; rfl
theorem occQ_none {t : Int} : ∀ {qs : List Queue} {k : Nat}, occQ t k qs = none → ∀ w ∈ wT qs, w.txn ≠ t
  | [], _, _, w, hw => by cases hw
  | q :: r, k, h, w, hw => by
    unfold occQ at h
    cases ho : occ t 0 q.waiters with
    | some x => rw [ho] at h; cases h
    | none =>
      rw [ho] at h
      rcases List.mem_append.1 (show w ∈ q.waiters ++ wT r from hw) with hw | hw
      · exact occ_none ho w hw
      · exact occQ_none h w hw
theorem held_of {r : Res} {hs : List Hold} {ws : List Wait} (h : PV r hs ws) (t : Int) : ofM r (heldL hs t) = true := by
  by_cases h0 : heldL hs t = 0
  · rw [h0]; exact ofM_zero r
  · obtain ⟨x, hx, _, e⟩ := held_some h0
    rw [← e]
    exact (modeB_iff.1 (h.ok x hx).2).2
theorem pv_nil (r : Res) : PV r [] [] := ⟨.nil, by simp, by simp, by simp, .nil, .nil⟩
section
variable {qs A B : List Queue} {y : Option Queue} {r : Res}
def theQ (y : Option Queue) (r : Res) : Queue := y.getD (Queue.mk r [] [])
theorem theQ_res (hc : Cut (cQ r) qs A y B) : (theQ y r).res = r := by
  cases y with
  | none => rfl
  | some q => exact cR_zero (hc.mid q rfl)
theorem theQ_pv (hl : lockB qs = true) (hc : Cut (cQ r) qs A y B) : PV r (theQ y r).holders (theQ y r).waiters ∧ firstB (theQ y r).holders (theQ y r).waiters = true := by
  cases y with
  | none => exact ⟨pv_nil r, rfl⟩
  | some q =>
    have hq : q ∈ qs := by rw [hc.eq]; simp
    obtain ⟨_, _, h3, h4⟩ := qB_iff.1 (lock_q hl q hq)
    have e : q.res = r := theQ_res hc
    rw [e] at h3
    exact ⟨h3, h4⟩
theorem ask1_eq (n : Nat) (hn : 1003 ≤ n) (hl : lockB qs = true) (hz : ∀ q ∈ qs, q.holders.length ≤ 900 ∧ q.waiters.length ≤ 900) (hc : Cut (cQ r) qs A y B) (m t w0 : Int) :
    locks_Ask_1 n qs r m t w0 = some (if resB r && modeB r m then (if (occQ t 0 qs).isSome then (181, r, m, t, w0, qs) else if !y.isSome && decide (500 ≤ qs.length) then (6, r, m, t, w0, qs) else (0, r, m, t, (askNew (theQ y r) t m).1, A ++ (askNew (theQ y r) t m).2 :: B)) else (2, r, m, t, w0, qs)) := by
  have hlen := lock_len hl
  have hsm : SmallL qs := fun q hq => by have := hz q hq; omega
  unfold locks_Ask_1
  simp only [locked_eq, Option.bind_some, jn, of_eq n (by omega)]
  cases hr : resB r with
  | false => rfl
  | true =>
    cases hm : modeB r m with
    | false => rfl
    | true =>
      simp only [Bool.not_true, cond_false, Bool.and_true, if_true, waits_eq n hn (Locks.mk qs) hsm (show qs.length ≤ 1000 by omega), Option.bind_some, qsearch hn hc (show qs.length ≤ 1000 by omega)]
      cases ho : occQ t 0 qs with
      | some z => rfl
      | none =>
        simp only [cond_false, Option.isSome_none, Bool.false_eq_true, if_false]
        have hpv := theQ_pv hl hc
        have hres := theQ_res hc
        have hq0 : (theQ y r).holders.length ≤ 900 ∧ (theQ y r).waiters.length ≤ 900 := by
          cases y with
          | none => exact ⟨by simp [theQ], by simp [theQ]⟩
          | some q => exact hz q (by rw [hc.eq]; simp)
        have hj : locks_Ask_1_j1 n ((A.length : Int), r, m, t, w0, A ++ theQ y r :: B, ()) = some (0, r, m, t, (askNew (theQ y r) t m).1, A ++ (askNew (theQ y r) t m).2 :: B) := by
          generalize theQ y r = q at hpv hres hq0
          have hm2 := (modeB_iff.1 hm)
          have hsup := sup_eq n (by omega) (held_of hpv.1 t) hm2.2
          have hh1 : ∀ x, locks_holds n t x q.res.table q.res.isKey q.res.id q.holders q.waiters = some (q.res.table, q.res.isKey, q.res.id, insH q.holders t x, q.waiters) := fun x => holdsA_eq n hn hpv.1.srt (by omega) t x _ _ _ _
          have hh2 : ∀ w, locks_stands n w q.res.table q.res.isKey q.res.id q.holders q.waiters = some (q.res.table, q.res.isKey, q.res.id, q.holders, standW q.waiters w) := fun w => stands_eq n hn w _ _ _ _ _ (by omega) hpv.1.wr
          unfold locks_Ask_1_j1 askNew
          simp only [idx_app, Option.bind_some, sameI_at, held_eq n hn q (by omega), covers_eq n (by omega), hsup, goesL_eq n hn q (by omega), bne_self_eq_false, cond_false, jn, hh1, hh2, set_app, ibne]
          have hw0 : ((q.waiters.length : Int) == 0) = decide (q.waiters.length = 0) := by rw [ibeq]; exact decide_eq_decide.2 (by omega)
          rw [hw0]
          cases coversB (heldL q.holders t) m with
          | true => rfl
          | false =>
            cases goesL q.holders t (supM (heldL q.holders t) m) <;> cases decide (heldL q.holders t = 0) <;> cases decide (q.waiters.length = 0) <;> rfl
        have he := hc.eq
        cases y with
        | some q =>
          simp only [Option.isSome_some, Bool.not_true, cond_false, Bool.false_and, Bool.false_eq_true, if_false]
          rw [← hj, he]
          rfl
        | none =>
          simp only [Option.isSome_none, Bool.not_false, cond_true, Bool.true_and]
          by_cases h500 : 500 ≤ qs.length
          · rw [decide_eq_true h500, decide_eq_true (show (qs.length : Int) ≥ 500 by omega)]; rfl
          · rw [decide_eq_false h500, decide_eq_false (show ¬ (qs.length : Int) ≥ 500 by omega)]
            have hins : slices_Insert_Queue n (A.length : Int) qs [Queue.mk r [] []] = some (A ++ Queue.mk r [] [] :: B) := by
              unfold slices_Insert_Queue
              exact insL_cut hc _ (by omega) (by omega)
            simp only [cond_false, hins, Option.bind_some, Bool.false_eq_true, if_false]
            exact hj
theorem supM_ne {a m : Int} (hm : m ≠ 0) (h : coversB a m = false) : supM a m ≠ 0 := by
  unfold supM
  rw [h]
  simp only [Bool.false_eq_true, if_false]
  split
  · exact hm
  · split <;> omega
theorem goesL_ins {hs : List Hold} {t m x c : Int} (hs' : SrtH hs) (hc : heldL hs t = 0 ∨ coversB m (heldL hs t) = true) (h : goesL (insH hs t m) x c = true) : goesL hs x c = true := by
  rw [goesL_iff] at h ⊢
  intro y hy
  by_cases hyt : y.txn = t
  · rcases h (Hold.mk t m) (mem_insH.2 (.inl rfl)) with e | e
    · exact .inl (by rw [hyt]; exact e)
    · right
      have hym : heldL hs t = y.mode := by rw [← hyt]; exact held_mem hs' hy
      rcases hc with h0 | h1
      · -- it holds none: goes with all that is a mode
        rw [hym] at h0
        rw [h0]
        have e : goesB m c = true := e
        unfold goesB at e ⊢
        simp only [Bool.and_eq_true] at e ⊢
        exact ⟨⟨by decide, e.1.2⟩, by simp⟩
      · rw [hym] at h1
        exact goes_less h1 e
  · exact h y (mem_insH.2 (.inr ⟨hy, hyt⟩))
theorem grant_pv {hs : List Hold} {ws : List Wait} (h : PV r hs ws) {t x : Int} (ht : txnB t = true) (hx : modeB r x = true) (hg : goesL hs t x = true) (hn : ∀ w ∈ ws, w.txn ≠ t) : PV r (insH hs t x) ws := by
  refine ⟨srt_insH h.srt, fun z hz => ?_, fun z hz => goesL_iff.2 fun v hv => ?_, fun w hw => ?_, h.wr, h.nd⟩
  · rcases mem_insH.1 hz with rfl | ⟨hz, _⟩
    · exact ⟨ht, hx⟩
    · exact h.ok z hz
  · rcases mem_insH.1 hz with rfl | ⟨hz, hzn⟩
    · rcases mem_insH.1 hv with rfl | ⟨hv, hvn⟩
      · exact .inl rfl
      · exact goesL_iff.1 hg v hv
    · rcases mem_insH.1 hv with rfl | ⟨hv, hvn⟩
      · right
        rw [goesB_comm]
        exact (goesL_iff.1 hg z hz).resolve_left hzn
      · exact goesL_iff.1 (h.fit z hz) v hv
  · obtain ⟨a', b', c', d'⟩ := wS_iff.1 (h.wok w hw)
    refine wS_iff.2 ⟨a', b', ?_, d'⟩
    rw [held_ins h.srt (hn w hw)]
    exact c'
theorem mem_stand {ws : List Wait} {w x : Wait} : x ∈ standW ws w ↔ x = w ∨ x ∈ ws := by
  unfold standW
  split
  · simp only [List.mem_append, List.mem_singleton]
    exact ⟨fun h => h.symm.imp id id, fun h => h.symm.imp id id⟩
  · simp only [List.mem_append, List.mem_cons, List.mem_filter, Bool.not_eq_true', decide_eq_false_iff_not, decide_eq_true_iff]
    constructor
    · rintro (⟨h, _⟩ | h | ⟨h, _⟩)
      · exact .inr h
      · exact .inl h
      · exact .inr h
    · rintro (h | h)
      · exact .inr (.inl h)
      · by_cases h0 : x.held = 0
        · exact .inr (.inr ⟨h, h0⟩)
        · exact .inl ⟨h, h0⟩
theorem perm_stand {ws : List Wait} {w : Wait} : (standW ws w).Perm (w :: ws) := by
  unfold standW
  split
  · exact List.perm_append_singleton _ _
  · refine List.perm_middle.trans (List.Perm.cons w ?_)
    have := List.filter_append_perm (fun x : Wait => !decide (x.held = 0)) ws
    simpa using this
theorem stand_pv {hs : List Hold} {ws : List Wait} (h : PV r hs ws) {w : Wait} (hw : wS r hs w = true) (hn : ∀ v ∈ ws, v.txn ≠ w.txn) : PV r hs (standW ws w) := by
  refine ⟨h.srt, h.ok, h.fit, fun v hv => ?_, ?_, ?_⟩
  · rcases mem_stand.1 hv with rfl | hv
    · exact hw
    · exact h.wok v hv
  · unfold standW
    split
    · rename_i h0
      rw [List.pairwise_append]
      refine ⟨h.wr, List.pairwise_singleton _ _, fun a _ b hb => ?_⟩
      rw [List.mem_singleton] at hb
      subst hb
      exact wR_iff.2 fun _ => h0
    · rename_i h0
      rw [List.pairwise_append]
      refine ⟨h.wr.filter _, List.pairwise_cons.2 ⟨fun b hb => wR_iff.2 fun e => absurd e h0, h.wr.filter _⟩, fun a ha b hb => ?_⟩
      have ha0 : a.held ≠ 0 := by simpa using (List.mem_filter.1 ha).2
      exact wR_iff.2 fun e => absurd e ha0
  · have hp := (perm_stand (ws := ws) (w := w)).map (·.txn)
    rw [hp.nodup_iff, List.map_cons, List.nodup_cons]
    exact ⟨fun hm => by obtain ⟨v, hv, e⟩ := List.mem_map.1 hm; exact hn v hv e, h.nd⟩
theorem stand_first {hs : List Hold} {ws : List Wait} {w : Wait} (hwr : ws.Pairwise fun a b => wR a b = true) (hf : firstB hs ws = true) (hw : goesL hs w.txn w.mode = false ∨ (w.held = 0 ∧ ws ≠ [])) : firstB hs (standW ws w) = true := by
  by_cases h0 : w.held = 0
  · unfold standW
    rw [if_pos h0]
    cases ws with
    | nil =>
      rcases hw with hw | ⟨_, hw⟩
      · simp [firstB, hw]
      · exact absurd rfl hw
    | cons v vs => exact hf
  · have hgo := hw.resolve_right fun h => h0 h.1
    obtain ⟨A, B, rfl, ha, hb⟩ := conv_split hwr
    rw [stand_split ha hb h0]
    cases A with
    | nil => simp [firstB, hgo]
    | cons v A => exact hf
theorem ask_q {q : Queue} (hr : q.res = r) (hrB : resB r = true) (hpv : PV r q.holders q.waiters) (hf : firstB q.holders q.waiters = true) {t m : Int} (ht : txnB t = true) (hm : modeB r m = true) (hn : ∀ w ∈ q.waiters, w.txn ≠ t) (hne : q.holders = [] → q.waiters = []) : qB (askNew q t m).2 = true ∧ (askNew q t m).2.res = r := by
  have hm2 := modeB_iff.1 hm
  have hof := held_of hpv t
  obtain ⟨s1, s2, s3⟩ := sup_ok hof hm2.2
  unfold askNew
  cases hcv : coversB (heldL q.holders t) m with
  | true =>
    simp only [if_true]
    refine ⟨qB_iff.2 ⟨by rw [hr]; exact hrB, fun e => ?_, by rw [hr]; exact hpv, hf⟩, hr⟩
    have : heldL q.holders t = 0 := by rw [e]; rfl
    rw [this, covers_zero hm2.1] at hcv; cases hcv
  | false =>
    simp only [Bool.false_eq_true, if_false]
    have hwant : modeB r (supM (heldL q.holders t) m) = true := modeB_iff.2 ⟨supM_ne hm2.1 hcv, s1⟩
    cases hg : goesL q.holders t (supM (heldL q.holders t) m) && (!decide (heldL q.holders t = 0) || decide (q.waiters.length = 0)) with
    | true =>
      simp only [if_true]
      rw [Bool.and_eq_true] at hg
      refine ⟨qB_iff.2 ⟨by rw [hr]; exact hrB, ?_, by rw [hr]; exact grant_pv hpv ht hwant hg.1 hn, ?_⟩, hr⟩
      · intro e
        have e : insH q.holders t (supM (heldL q.holders t) m) = [] := e
        have : Hold.mk t (supM (heldL q.holders t) m) ∈ insH q.holders t (supM (heldL q.holders t) m) := mem_insH.2 (.inl rfl)
        rw [e] at this; cases this
      · show firstB (insH q.holders t (supM (heldL q.holders t) m)) q.waiters = true
        cases hws : q.waiters with
        | nil => rfl
        | cons v vs =>
          rw [hws] at hf
          simp only [firstB, Bool.not_eq_true'] at hf ⊢
          cases hgo : goesL (insH q.holders t (supM (heldL q.holders t) m)) v.txn v.mode with
          | false => rfl
          | true => rw [goesL_ins hpv.srt (.inr s2) hgo] at hf; cases hf
    | false =>
      simp only [Bool.false_eq_true, if_false]
      have hw : wS r q.holders (Wait.mk t (supM (heldL q.holders t) m) (heldL q.holders t)) = true := by
        have hno : coversB (heldL q.holders t) (supM (heldL q.holders t) m) = false := by
          cases hx : coversB (heldL q.holders t) (supM (heldL q.holders t) m) with
          | false => rfl
          | true => rw [covers_trans hx s3] at hcv; cases hcv
        exact wS_iff.2 ⟨ht, hwant, rfl, hno, s2⟩
      have hfirst : goesL q.holders t (supM (heldL q.holders t) m) = false ∨ (heldL q.holders t = 0 ∧ q.waiters ≠ []) := by
        rw [Bool.and_eq_false_iff, Bool.or_eq_false_iff] at hg
        rcases hg with hg | ⟨g1, g2⟩
        · exact .inl hg
        · right
          refine ⟨by simpa using g1, fun e => ?_⟩
          rw [e] at g2; simp at g2
      refine ⟨qB_iff.2 ⟨by rw [hr]; exact hrB, fun e => ?_, by rw [hr]; exact stand_pv hpv hw hn, stand_first hpv.wr hf hfirst⟩, hr⟩
      have e : q.holders = [] := e
      rcases hfirst with h | ⟨_, h⟩
      · rw [e] at h; cases h
      · exact h (hne e)
theorem ask_wT {q : Queue} {t m : Int} : ((askNew q t m).2.waiters.map (·.txn)).Perm (q.waiters.map (·.txn)) ∨ ((askNew q t m).2.waiters.map (·.txn)).Perm (t :: q.waiters.map (·.txn)) := by
  unfold askNew
  split
  · exact .inl (List.Perm.refl _)
  · split
    · exact .inl (List.Perm.refl _)
    · exact .inr (perm_stand.map (·.txn))
theorem ask_lock (hl : lockB qs = true) (hc : Cut (cQ r) qs A y B) {t m : Int} (ht : txnB t = true) (hr : resB r = true) (hm : modeB r m = true) (ho : occQ t 0 qs = none) (hy : y.isSome = true ∨ qs.length < 500) : lockB (A ++ (askNew (theQ y r) t m).2 :: B) = true := by
  have hlen := lock_len hl
  have hno := occQ_none ho
  have hpv := theQ_pv hl hc
  have hres := theQ_res hc
  have heq : wT qs = wT A ++ ((theQ y r).waiters ++ wT B) := by
    rw [hc.eq]
    cases y with
    | none => simp [wT, theQ]
    | some q => simp [wT, theQ]
  have hqn : ∀ w ∈ (theQ y r).waiters, w.txn ≠ t := fun w hw => hno w (by rw [heq]; simp [hw])
  have hne : (theQ y r).holders = [] → (theQ y r).waiters = [] := fun e => by
    cases y with
    | none => rfl
    | some q => exact absurd e (qB_iff.1 (lock_q hl q (by rw [hc.eq]; simp))).2.1
  have hq := ask_q hres hr hpv.1 hpv.2 ht hm hqn hne
  have hsrt := lock_srt hl
  rw [hc.eq, List.pairwise_append] at hsrt
  obtain ⟨p1, p2, p3⟩ := hsrt
  rw [List.pairwise_append] at p2
  refine lockB_of ?_ (fun q hqm => ?_) ?_ ?_
  · have h1 := cut_len hc
    simp only [List.length_append, List.length_cons]
    cases y with
    | none =>
      simp only [Option.toList_none, List.length_nil] at h1
      rcases hy with hy | hy
      · cases hy
      · omega
    | some q =>
      simp only [Option.toList_some, List.length_singleton] at h1
      omega
  · rcases List.mem_append.1 hqm with h | h
    · exact lock_q hl q (by rw [hc.eq]; simp [h])
    · rcases List.mem_cons.1 h with rfl | h
      · exact hq.1
      · exact lock_q hl q (by rw [hc.eq]; simp [h])
  · rw [List.pairwise_append]
    refine ⟨p1, List.pairwise_cons.2 ⟨fun b hb => ?_, p2.2.1⟩, fun a ha b hb => ?_⟩
    · show ltR (askNew (theQ y r) t m).2.res b.res = true
      rw [hq.2]
      exact cR_pos (hc.hi b hb)
    · rcases List.mem_cons.1 hb with rfl | hb
      · show ltR a.res (askNew (theQ y r) t m).2.res = true
        rw [hq.2]
        exact cR_lt (hc.lo a ha)
      · exact p3 a ha b (List.mem_append_right _ hb)
  · have hnd := lock_nod hl
    have e2 : wT (A ++ (askNew (theQ y r) t m).2 :: B) = wT A ++ ((askNew (theQ y r) t m).2.waiters ++ wT B) := by simp [wT]
    rw [heq] at hnd hno
    rw [e2]
    simp only [List.map_append] at hnd ⊢
    rcases ask_wT (q := theQ y r) (t := t) (m := m) with hp | hp
    · exact ((hp.append_right ((wT B).map (·.txn))).append_left ((wT A).map (·.txn))).nodup_iff.2 hnd
    · refine (((hp.append_right ((wT B).map (·.txn))).append_left ((wT A).map (·.txn))).trans List.perm_middle).nodup_iff.2 (List.nodup_cons.2 ⟨fun hm => ?_, hnd⟩)
      have hm : t ∈ (wT A ++ ((theQ y r).waiters ++ wT B)).map (·.txn) := by
        rw [List.map_append, List.map_append]; exact hm
      obtain ⟨w, hw, e⟩ := List.mem_map.1 hm
      exact hno w hw e
end
end Go.Proofs.YtndehfninoimgaaGreat
namespace Go.Proofs.YtndehfninoimgaaGreat
open Go.Bur
set_option linter.unusedSimpArgs false
set_option linter.unusedVariables false
set_option maxRecDepth 100000
theorem rsup_eq (n : Nat) (hn : 40 ≤ n) {r : Res} {a b : Int} (ha : ofM r a = true) (hb : ofM r b = true) : ref07_Sup n a b = some (supM a b) := by
  obtain ⟨n, rfl⟩ : ∃ m, n = m + 40 := ⟨n - 40, by omega⟩
  unfold ofM at ha hb
  cases hk : r.isKey with
  | true =>
    rw [hk, if_pos rfl] at ha hb
    have ha : a = 0 ∨ a = 3 ∨ a = 5 ∨ a = 6 := of_decide_eq_true ha
    have hb : b = 0 ∨ b = 3 ∨ b = 5 ∨ b = 6 := of_decide_eq_true hb
    clear hk
    rcases ha with rfl | rfl | rfl | rfl <;> rcases hb with rfl | rfl | rfl | rfl <;> (show ref07_Sup (n + 40) _ _ = some _; kernel_rfl)
  | false =>
    rw [hk, if_neg (by decide)] at ha hb
    unfold tabM at ha hb
    rw [Bool.and_eq_true, Bool.not_eq_true', decide_eq_false_iff_not] at ha hb
    rcases isM_cases ha.1 with rfl | rfl | rfl | rfl | rfl | rfl | rfl <;> rcases isM_cases hb.1 with rfl | rfl | rfl | rfl | rfl | rfl | rfl <;> first | exact absurd rfl ha.2 | exact absurd rfl hb.2 | (show ref07_Sup (n + 40) _ _ = some _; kernel_rfl)
theorem rholds_eq (n : Nat) (hn : 1003 ≤ n) (q : Queue) (h : SrtH q.holders) (hl : q.holders.length ≤ 1000) (t m : Int) : ref08_holds n q t m = some (Queue.mk q.res (insH q.holders t m) q.waiters) := by
  obtain ⟨A, y, B, hc⟩ := cutH t h
  rw [cut_insH hc]
  unfold ref08_holds
  show ref08_holds_l1 n n (t, m, false, q.holders, (q.holders.length : Int), ((0 : Nat) : Int), q, Queue.mk (Res.mk 0 false 0) [] [], [], ()) = _
  unfold ref08_holds_l1
  rw [run_loopI q.holders (fun i (s : Bool × List Hold) => (t, m, s.1, q.holders, (q.holders.length : Int), (i : Int), q, Queue.mk (Res.mk 0 false 0) [] [], s.2, ())) (fun _ x s => .inr (layS (cH t) (Hold.mk t m) x s)) (fun s => some (Queue.mk q.res (layE (Hold.mk t m) s) q.waiters)) (fun i s => s.2.length ≤ 2 * i) ?_ ?_ ?_ n 0 (false, []) (Nat.zero_le _) (by omega) (Nat.le_refl _)]
  · rw [List.drop_zero, runL_fold (g := fun x s => layS (cH t) (Hold.mk t m) x s), lay_in hc, List.nil_append]
  · intro i s x s' hx hI he
    cases he
    have := layS_len (c := cH t) (o := Hold.mk t m) (x := x) (s := s); omega
  · intro r i s x hx hi hI
    obtain ⟨d, acc⟩ := s
    simp only at hI ⊢
    have ha : ∀ (u : List Hold), u.length ≤ 5000 → ∀ z : Hold, app 16 u [z] = some (u ++ [z]) := fun u hu z => app_lt (by simp; omega) (by omega)
    have e1 : decide (x.txn ≥ t) = decide (cH t x ≥ 0) := decide_eq_decide.2 (by rcases cmpT_cases x.txn t with ⟨k, e⟩ | ⟨k, e⟩ | ⟨k, e⟩ <;> unfold cH <;> omega)
    have e2 : decide (x.txn = t) = decide (cH t x = 0) := decide_eq_decide.2 cmpT_zero.symm
    simp only [lt_dec hi, cond_true, idx_nat, hx, Option.bind_some, jn, ref08_holds_j2, ref08_holds_j3, ibne, e1, e2, wrap_succ (show i < 4611686018427387904 by omega)]
    unfold layS
    simp only
    cases d with
    | true =>
      by_cases h0 : cH t x = 0
      · simp only [Bool.not_true, cond_false, decide_eq_true h0, Bool.false_and, Bool.false_eq_true, if_false, if_pos h0]
      · simp only [Bool.not_true, cond_false, decide_eq_false h0, Bool.not_false, cond_true, Bool.false_and, Bool.false_eq_true, if_false, if_neg h0, ha acc (by omega), Option.bind_some]
    | false =>
      simp only [Bool.not_false, cond_true, Bool.true_and]
      by_cases hg : cH t x ≥ 0
      · by_cases h0 : cH t x = 0
        · simp only [decide_eq_true hg, decide_eq_true h0, cond_true, ha acc (by omega), Option.bind_some, Bool.not_true, cond_false, if_true, if_pos h0]
        · simp only [decide_eq_true hg, decide_eq_false h0, cond_true, ha acc (by omega), Option.bind_some, Bool.not_false, if_true, if_neg h0, ha (acc ++ [Hold.mk t m]) (by simp; omega)]
      · have h0 : ¬ cH t x = 0 := by omega
        simp only [decide_eq_false hg, decide_eq_false h0, cond_false, Bool.not_false, cond_true, ha acc (by omega), Option.bind_some, Bool.false_eq_true, if_false, if_neg h0]
  · intro r s hI
    obtain ⟨d, acc⟩ := s
    have hI : acc.length ≤ 2 * q.holders.length := hI
    simp only [ge_dec (Nat.lt_irrefl _), cond_false, jn, ref08_holds_j4]
    unfold layE
    cases d with
    | true => rfl
    | false =>
      simp only [Bool.not_false, cond_true, app_lt (show acc.length + [Hold.mk t m].length ≤ 1000000 by simp; omega) (show 16 ≤ 1000 by omega), Option.bind_some, Bool.false_eq_true, if_false]
def layW8 (w x : Wait) (s : Bool × List Wait) : Bool × List Wait := if !s.1 && (!decide (w.held = 0) && decide (x.held = 0)) then (true, s.2 ++ [w] ++ [x]) else (s.1, s.2 ++ [x])
theorem layW8_on {w : Wait} : ∀ {l : List Wait} {acc : List Wait}, l.foldl (fun s x => layW8 w x s) (true, acc) = (true, acc ++ l)
  | [], acc => by simp
  | x :: l, acc => by
    rw [List.foldl_cons]
    have e : layW8 w x (true, acc) = (true, acc ++ [x]) := by simp [layW8]
    rw [e, layW8_on]; simp
theorem layW8_lo {w : Wait} : ∀ {l : List Wait} {acc : List Wait}, (w.held = 0 ∨ ∀ x ∈ l, x.held ≠ 0) → l.foldl (fun s x => layW8 w x s) (false, acc) = (false, acc ++ l)
  | [], acc, _ => by simp
  | x :: l, acc, h => by
    rw [List.foldl_cons]
    have e : layW8 w x (false, acc) = (false, acc ++ [x]) := by
      rcases h with h | h
      · simp [layW8, h]
      · simp [layW8, h x (List.mem_cons_self ..)]
    rw [e, layW8_lo (h.imp id fun h z hz => h z (List.mem_cons_of_mem _ hz))]; simp
theorem layW8_end {ws : List Wait} {w : Wait} (hwr : ws.Pairwise fun a b => wR a b = true) : (if (ws.foldl (fun s x => layW8 w x s) (false, [])).1 then (ws.foldl (fun s x => layW8 w x s) (false, [])).2 else (ws.foldl (fun s x => layW8 w x s) (false, [])).2 ++ [w]) = standW ws w := by
  by_cases hw : w.held = 0
  · rw [layW8_lo (.inl hw)]
    unfold standW
    rw [if_pos hw]
    simp
  · obtain ⟨A, B, rfl, ha, hb⟩ := conv_split hwr
    rw [stand_split ha hb hw, List.foldl_append, layW8_lo (.inr ha)]
    cases B with
    | nil => simp
    | cons v B =>
      rw [List.foldl_cons]
      have e : layW8 w v (false, [] ++ A) = (true, [] ++ A ++ [w] ++ [v]) := by simp [layW8, hw, hb v (List.mem_cons_self ..)]
      rw [e, layW8_on]
      simp
theorem rstands_eq (n : Nat) (hn : 1003 ≤ n) (q : Queue) (hwr : q.waiters.Pairwise fun a b => wR a b = true) (hl : q.waiters.length ≤ 1000) (w : Wait) : ref08_waits n q w = some (Queue.mk q.res q.holders (standW q.waiters w)) := by
  unfold ref08_waits
  show ref08_waits_l1 n n (false, q.waiters, (q.waiters.length : Int), ((0 : Nat) : Int), q, w, Queue.mk (Res.mk 0 false 0) [] [], [], ()) = _
  unfold ref08_waits_l1
  rw [run_loopI q.waiters (fun i (s : Bool × List Wait) => (s.1, q.waiters, (q.waiters.length : Int), (i : Int), q, w, Queue.mk (Res.mk 0 false 0) [] [], s.2, ())) (fun _ x s => .inr (layW8 w x s)) (fun s => some (Queue.mk q.res q.holders (if s.1 then s.2 else s.2 ++ [w]))) (fun i s => s.2.length ≤ 2 * i) ?_ ?_ ?_ n 0 (false, []) (Nat.zero_le _) (by omega) (Nat.le_refl _)]
  · rw [List.drop_zero, runL_fold (g := fun x s => layW8 w x s), layW8_end hwr]
  · intro i s x s' hx hI he
    cases he
    unfold layW8
    split
    · simp; omega
    · simp; omega
  · intro r i s x hx hi hI
    obtain ⟨d, acc⟩ := s
    simp only at hI ⊢
    have ha : ∀ (u : List Wait), u.length ≤ 5000 → ∀ z : Wait, app 24 u [z] = some (u ++ [z]) := fun u hu z => app_lt (by simp; omega) (by omega)
    simp only [lt_dec hi, cond_true, idx_nat, hx, Option.bind_some, jn, ref08_waits_j2, ibeq, ibne, wrap_succ (show i < 4611686018427387904 by omega)]
    unfold layW8
    simp only
    cases d with
    | true => simp only [Bool.not_true, cond_false, Bool.false_and, Bool.false_eq_true, if_false, ha acc (by omega), Option.bind_some]
    | false =>
      simp only [Bool.not_false, cond_true, Bool.true_and]
      cases decide (w.held = 0) with
      | true => simp only [Bool.not_true, cond_false, Bool.false_and, Bool.false_eq_true, if_false, ha acc (by omega), Option.bind_some]
      | false =>
        simp only [Bool.not_false, cond_true, Bool.true_and]
        cases decide (x.held = 0) with
        | true => simp only [cond_true, if_true, ha acc (by omega), Option.bind_some, ha (acc ++ [w]) (by simp; omega)]
        | false => simp only [cond_false, Bool.false_eq_true, if_false, ha acc (by omega), Option.bind_some]
  · intro r s hI
    obtain ⟨d, acc⟩ := s
    have hI : acc.length ≤ 2 * q.waiters.length := hI
    simp only [ge_dec (Nat.lt_irrefl _), cond_false, jn, ref08_waits_j3]
    cases d with
    | true => rfl
    | false =>
      simp only [Bool.not_false, cond_true, app_lt (show acc.length + [w].length ≤ 1000000 by simp; omega) (show 24 ≤ 1000 by omega), Option.bind_some, Bool.false_eq_true, if_false]
end Go.Proofs.YtndehfninoimgaaGreat
namespace Go.Proofs.YtndehfninoimgaaGreat
open Go.Bur
set_option linter.unusedSimpArgs false
set_option linter.unusedVariables false
set_option maxRecDepth 100000
def rW : Res := Res.mk 0 true 7
def lW3 : Locks := Locks.mk [Queue.mk rW [Hold.mk 1 3, Hold.mk 2 3] [Wait.mk 1 5 3]]
def lW1 : Locks := Locks.mk [Queue.mk rW [Hold.mk 1 3] []]
def lW2 : Locks := Locks.mk [Queue.mk rW [Hold.mk 1 3, Hold.mk 2 3] []]
theorem small0 : SmallL (Locks.mk []).queues := fun q hq => by cases hq
theorem small1 {q : Queue} (h : q.holders.length ≤ 1000 ∧ q.waiters.length ≤ 1000) : SmallL (Locks.mk [q]).queues := fun p hp => by
  rw [List.mem_singleton.1 hp]; exact h
theorem wakesL (n : Nat) (hn : 3003 ≤ n) : law08_wakes n = some true := by
  obtain ⟨m, rfl⟩ : ∃ m, n = m + 3003 := ⟨n - 3003, by omega⟩
  have h1 : locks_Ask (m + 3003) (Locks.mk []) 1 rW 3 = some (lW1, 2, 0) := ask_step (r' := rW) (m' := 3) (t' := 1) (by omega) small0 (by decide) (by kernel_rfl) (by kernel_rfl) (by kernel_rfl)
  have h2 : locks_Ask (m + 3003) lW1 2 rW 3 = some (lW2, 2, 0) := ask_step (r' := rW) (m' := 3) (t' := 2) (by omega) (small1 ⟨by decide, by decide⟩) (by decide) (by kernel_rfl) (by kernel_rfl) (by kernel_rfl)
  have h3 : locks_Ask (m + 3003) lW2 1 rW 6 = some (lW3, 3, 0) := ask_step (r' := rW) (m' := 6) (t' := 1) (by omega) (small1 ⟨by decide, by decide⟩) (by decide) (by kernel_rfl) (by kernel_rfl) (by kernel_rfl)
  have hsm : SmallL lW3.queues := small1 ⟨by decide, by decide⟩
  have hl3 : lockB lW3.queues = true := by kernel_rfl
  have h4 : locks_Blockers (m + 3003) lW3 1 = some [2] := by
    rw [blockers_eq _ (by omega) lW3 hsm (by decide)]
    congr 1
    have hb : blkL lW3.queues 1 = cpZ (sortZ [2]) := by
      unfold blkL
      have ho : occQ 1 0 lW3.queues = some (0, Queue.mk rW [Hold.mk 1 3, Hold.mk 2 3] [Wait.mk 1 5 3], 0, Wait.mk 1 5 3) := by kernel_rfl
      rw [ho, hl3]
      rfl
    rw [hb]
    exact up_ext (cp_sort _).1 (by simp) fun x => (cp_sort [2]).2 x
  have h5 : locks_Release (m + 3003) lW3 2 = some (Locks.mk [Queue.mk rW [Hold.mk 1 5] []], [1], 0) := release_step (t' := 2) (by omega) hsm (by decide) hl3 (by kernel_rfl) (by kernel_rfl)
  unfold law08_wakes
  show (locks_Ask (m + 3003) (Locks.mk []) 1 rW 3).bind _ = _
  rw [h1, Option.bind_some]
  show (locks_Ask (m + 3003) lW1 2 rW 3).bind _ = _
  rw [h2, Option.bind_some]
  show (locks_Ask (m + 3003) lW2 1 rW 6).bind _ = _
  rw [h3, Option.bind_some]
  show (locks_Blockers (m + 3003) lW3 1).bind _ = _
  rw [h4, Option.bind_some]
  show (locks_Release (m + 3003) lW3 2).bind _ = _
  rw [h5, Option.bind_some]
  clear h1 h2 h3 h4 h5
  kernel_rfl
section
variable (n : Nat) (hn : 1000003 ≤ n) (ls : List Locks) (ts : List Int) (xs : List Res) (hx : xs.length < n) (l : Locks) (hs : SmallM l.queues) (hq : l.queues.length ≤ 1000) (L i : Int)
include hn hx hs hq
end
end Go.Proofs.YtndehfninoimgaaGreat
namespace Go.Proofs.YtndehfninoimgaaGreat
open Go.Bur
set_option linter.unusedSimpArgs false
set_option linter.unusedVariables false
set_option maxRecDepth 100000
theorem mem_wT {qs : List Queue} {w : Wait} : w ∈ wT qs ↔ ∃ q ∈ qs, w ∈ q.waiters := by unfold wT; exact List.mem_flatMap
def Sz (qs : List Queue) : Prop := qs.length ≤ 501 ∧ ∀ q ∈ qs, q.holders.length + q.waiters.length ≤ 100
theorem Sz.small {qs : List Queue} (h : Sz qs) : SmallL qs := fun q hq => by have := h.2 q hq; omega
end Go.Proofs.YtndehfninoimgaaGreat
namespace Go.Proofs.YtndehfninoimgaaGreat
open Go.Bur
set_option linter.unusedSimpArgs false
set_option linter.unusedVariables false
set_option maxRecDepth 100000
def SzK (k : Nat) (qs : List Queue) : Prop := qs.length ≤ 501 ∧ ∀ q ∈ qs, q.holders.length + q.waiters.length ≤ k
theorem SzK.sz {k : Nat} {qs : List Queue} (h : SzK k qs) (hk : k ≤ 100) : Sz qs := ⟨h.1, fun q hq => by have := h.2 q hq; omega⟩
theorem left_szK {k : Nat} {qs : List Queue} (hl : lockB qs = true) (h : SzK k qs) (n : Int) (all : Bool) : SzK k (leftL n all qs) := by
  constructor
  · unfold leftL
    have := List.length_filter_le (fun q : Queue => !decide (q.holders.length = 0)) (qs.map (leftQ n all))
    rw [List.length_map] at this
    have := h.1; omega
  · intro q hq
    obtain ⟨hq, _⟩ := List.mem_filter.1 hq
    obtain ⟨p, hp, rfl⟩ := List.mem_map.1 hq
    have hpv := (qB_iff.1 (lock_q hl p hp)).2.2.1.del n all
    have h1 := (pump_len (ws := p.waiters.filter fun w => !decide (w.txn = n)) hpv.srt).1
    have h2 := List.length_filter_le (fun w : Wait => !decide (w.txn = n)) p.waiters
    have h3 : (if all then p.holders.filter fun x => !decide (x.txn = n) else p.holders).length ≤ p.holders.length := by
      cases all with
      | true => exact List.length_filter_le _ _
      | false => exact Nat.le_refl _
    have := h.2 p hp
    show (pullQ n all p).1.length + (pullQ n all p).2.1.length ≤ k
    unfold pullQ; omega
theorem ask_szQ {q : Queue} {t m : Int} (h : SrtH q.holders) : (askNew q t m).2.holders.length + (askNew q t m).2.waiters.length ≤ q.holders.length + q.waiters.length + 1 := by
  unfold askNew
  split
  · show q.holders.length + q.waiters.length ≤ _
    omega
  · split
    · have := insH_len (t := t) (m := supM (heldL q.holders t) m) h
      show (insH q.holders t (supM (heldL q.holders t) m)).length + q.waiters.length ≤ _
      omega
    · show q.holders.length + (standW q.waiters _).length ≤ _
      rw [perm_stand.length_eq, List.length_cons]; omega
theorem ask_szK {k : Nat} {qs A B : List Queue} {y : Option Queue} {r : Res} (hl : lockB qs = true) (hc : Cut (cQ r) qs A y B) {t m : Int} (h : SzK k qs) (hL : lockB (A ++ (askNew (theQ y r) t m).2 :: B) = true) : SzK (k + 1) (A ++ (askNew (theQ y r) t m).2 :: B) := by
  refine ⟨by have := lock_len hL; omega, fun q hq => ?_⟩
  rcases List.mem_append.1 hq with hq | hq
  · have := h.2 q (by rw [hc.eq]; simp [hq]); omega
  · rcases List.mem_cons.1 hq with rfl | hq
    · have h1 := ask_szQ (t := t) (m := m) (theQ_pv hl hc).1.srt
      have h2 : (theQ y r).holders.length + (theQ y r).waiters.length ≤ k := by
        cases y with
        | none => simp [theQ]
        | some p => exact h.2 p (by rw [hc.eq]; simp)
      omega
    · have := h.2 q (by rw [hc.eq]; simp [hq]); omega
def zOp (o : law08_Op) : Int := (IntKind.wrap .u64 o.kind).tmod 7
theorem zOp_eq (o : law08_Op) : remP (IntKind.wrap .u64 o.kind) 7 = some (zOp o) := by
  unfold remP zOp
  rfl
structure Done (o : law08_Op) (qs : List Queue) (td : law08_told) : Prop where
  lock : lockB qs = true
  txn : txnB o.txn = true
  way : (zOp o = 5 ∧ td.l = Locks.mk (leftL o.txn true qs) ∧ td.granted = grantL o.txn true qs) ∨
    (zOp o = 6 ∧ td.l = Locks.mk (leftL o.txn false qs) ∧ td.granted = grantL o.txn false qs) ∨
    (zOp o ≠ 5 ∧ zOp o ≠ 6 ∧ td.granted = [] ∧ resB o.res = true ∧ modeB o.res o.mode = true ∧ occQ o.txn 0 qs = none ∧ ∃ A y B, Cut (cQ o.res) qs A y B ∧ (y.isSome = true ∨ qs.length < 500) ∧
      td.l = Locks.mk (A ++ (askNew (theQ y o.res) o.txn o.mode).2 :: B) ∧ td.what = (askNew (theQ y o.res) o.txn o.mode).1)
theorem Done.ok {o : law08_Op} {qs : List Queue} {td : law08_told} (h : Done o qs td) : lockB td.l.queues = true := by
  rcases h.way with ⟨_, e, _⟩ | ⟨_, e, _⟩ | ⟨_, _, _, hr, hm, ho, A, y, B, hc, hy, e, _⟩
  · rw [e]; exact left_ok h.lock _ _
  · rw [e]; exact left_ok h.lock _ _
  · rw [e]; exact ask_lock h.lock hc h.txn hr hm ho hy
theorem Done.sz {k : Nat} {o : law08_Op} {qs : List Queue} {td : law08_told} (h : Done o qs td) (hz : SzK k qs) : SzK (k + 1) td.l.queues := by
  have up : ∀ {ps : List Queue}, SzK k ps → SzK (k + 1) ps := fun h => ⟨h.1, fun q hq => by have := h.2 q hq; omega⟩
  have hok := h.ok
  rcases h.way with ⟨_, e, _⟩ | ⟨_, e, _⟩ | ⟨_, _, _, hr, hm, ho, A, y, B, hc, hy, e, _⟩
  · rw [e]; exact up (left_szK h.lock hz _ _)
  · rw [e]; exact up (left_szK h.lock hz _ _)
  · rw [e] at hok ⊢; exact ask_szK h.lock hc hz hok
end Go.Proofs.YtndehfninoimgaaGreat
namespace Go.Proofs.YtndehfninoimgaaGreat
open Go.Bur
set_option linter.unusedSimpArgs false
set_option linter.unusedVariables false
set_option maxRecDepth 100000
theorem foldI_append {α σ : Type} {g : Nat → α → σ → σ} : ∀ {a b : List α} {k : Nat} {s : σ}, foldI g k (a ++ b) s = foldI g (k + a.length) b (foldI g k a s)
  | [], b, k, s => by simp [foldI]
  | x :: a, b, k, s => by
    rw [List.cons_append, foldI, foldI, foldI_append, List.length_cons, show k + 1 + a.length = k + (a.length + 1) from by omega]
theorem foldI_skip {α σ : Type} {g : Nat → α → σ → σ} {s : σ} : ∀ {l : List α} {k : Nat}, (∀ i x, x ∈ l → g i x s = s) → foldI g k l s = s
  | [], _, _ => rfl
  | x :: l, k, h => by
    rw [foldI, h k x (List.mem_cons_self ..)]
    exact foldI_skip fun i z hz => h i z (List.mem_cons_of_mem _ hz)
theorem eqb_ne' {a b : Res} (h : a ≠ b) : Res.eqb a b = false := by
  cases he : Res.eqb a b with
  | false => rfl
  | true => exact absurd (eqb_res he) h
def atG (r : Res) (i : Nat) (x : Queue) (s : Int × Queue) : Int × Queue := if Res.eqb x.res r then ((i : Int), x) else s
theorem atG_cut {qs A B : List Queue} {y : Option Queue} {r : Res} (hc : Cut (cQ r) qs A y B) : foldI (atG r) 0 qs (-1, Queue.mk r [] []) = (if y.isSome then (A.length : Int) else -1, theQ y r) := by
  have hA : ∀ i x s, x ∈ A → atG r i x s = s := fun i x s hx => by
    unfold atG
    rw [eqb_ne' (fun e => by have := hc.lo x hx; unfold cQ at this; rw [e] at this; rcases cR_cases r r with ⟨_, h⟩ | ⟨_, h⟩ | ⟨h, _⟩ <;> first | omega | (rw [ltR_irr'] at *; simp_all))]
    rfl
  have hB : ∀ i x s, x ∈ B → atG r i x s = s := fun i x s hx => by
    unfold atG
    rw [eqb_ne' (fun e => by have := cR_pos (hc.hi x hx); rw [e, ltR_irr'] at this; cases this)]
    rfl
  rw [hc.eq, foldI_append, foldI_skip fun i x hx => hA i x _ hx, foldI_append]
  cases y with
  | none => simp only [Option.toList_none, foldI]; exact foldI_skip fun i x hx => hB i x _ hx
  | some q =>
    have e : atG r (0 + A.length) q (-1, Queue.mk r [] []) = ((A.length : Int), q) := by
      unfold atG
      have hq : q.res = r := cR_zero (hc.mid q rfl)
      rw [hq, Nat.zero_add]
      simp [Res.eqb]
    simp only [Option.toList_some, foldI, e]
    exact foldI_skip fun i x hx => hB i x _ hx
theorem rask_eq (n : Nat) (hn : 1003 ≤ n) {qs A B : List Queue} {y : Option Queue} {r : Res} (hl : lockB qs = true) (hi : IdIn qs) (hri : 0 ≤ r.id ∧ r.id < 65536) (hz : ∀ q ∈ qs, q.holders.length ≤ 900 ∧ q.waiters.length ≤ 900) (hc : Cut (cQ r) qs A y B) {t m : Int} (ht : txnB t = true) (hr : resB r = true) (hm : modeB r m = true) (ho : occQ t 0 qs = none) :
    ref08_Ask n (Locks.mk qs) t r m = some (if !y.isSome && decide (500 ≤ qs.length) then (Locks.mk [], 0, 6) else (Locks.mk (A ++ (askNew (theQ y r) t m).2 :: B), (askNew (theQ y r) t m).1, 0)) := by
  have hlen := lock_len hl
  have hsm : SmallL qs := fun q hq => by have := hz q hq; omega
  have hpv := theQ_pv hl hc
  have hres := theQ_res hc
  have hq0 : (theQ y r).holders.length ≤ 900 ∧ (theQ y r).waiters.length ≤ 900 := by
    cases y with
    | none => exact ⟨by simp [theQ], by simp [theQ]⟩
    | some q => exact hz q (by rw [hc.eq]; simp)
  have hw := rwaitsC_eq n hn (Locks.mk qs) hsm (show qs.length ≤ 1000 by omega) t
  rw [show occQ t 0 (Locks.mk qs).queues = none from ho] at hw
  unfold ref08_Ask
  simp only [rtxn_eq, ht, rres_eq, hr, rmode_eq, hm, Option.bind_some, jn, Bool.not_true, cond_false, hw]
  show ref08_Ask_l1 n n (t, m, -1, qs, (qs.length : Int), ((0 : Nat) : Int), Locks.mk qs, r, Locks.mk [], Queue.mk r [] [], ()) = _
  unfold ref08_Ask_l1
  have hlay : ∀ (q1 : Queue) (what : Int), ref08_Ask_l4 n n (what, false, qs, (qs.length : Int), 0, r, Locks.mk [], q1, [], ()) = some (Locks.mk (A ++ q1 :: B), what, 0) := by
    intro q1 what
    show ref08_Ask_l4 n n (what, false, qs, (qs.length : Int), ((0 : Nat) : Int), r, Locks.mk [], q1, [], ()) = _
    unfold ref08_Ask_l4
    rw [run_loopI qs (fun i (s : Bool × List Queue) => (what, s.1, qs, (qs.length : Int), (i : Int), r, Locks.mk [], q1, s.2, ())) (fun _ x s => .inr (layS (cQ r) q1 x s)) (fun s => some (Locks.mk (layE q1 s), what, 0)) (fun i s => s.2.length ≤ 2 * i) ?_ ?_ ?_ n 0 (false, []) (Nat.zero_le _) (by omega) (Nat.le_refl _)]
    · rw [List.drop_zero, runL_fold (g := fun x s => layS (cQ r) q1 x s), lay_in hc, List.nil_append]
    · intro i s x s' hx hI he
      cases he
      have := layS_len (c := cQ r) (o := q1) (x := x) (s := s); omega
    · intro k i s x hx hi' hI
      obtain ⟨d, acc⟩ := s
      simp only at hI ⊢
      have hxm := List.mem_of_getElem? hx
      have hxr : resB x.res = true := by
        have := lock_q hl x hxm
        unfold qB at this
        simp only [Bool.and_eq_true] at this
        exact this.1.1
      have ha : ∀ (u : List Queue), u.length ≤ 5000 → ∀ z : Queue, app 64 u [z] = some (u ++ [z]) := fun u hu z => app_lt (by simp; omega) (by omega)
      have e1 : decide (ordR x.res ≥ ordR r) = decide (cQ r x ≥ 0) := by
        rw [ord_ge hxr hr (hi x hxm) hri]
        exact cR_ge.symm
      have e2 : Res.eqb x.res r = decide (cQ r x = 0) := by
        by_cases h0 : cQ r x = 0
        · rw [decide_eq_true h0, cR_zero h0]; simp [Res.eqb]
        · rw [decide_eq_false h0]
          refine eqb_ne' fun e => h0 ?_
          unfold cQ
          rw [e]
          rcases cR_cases r r with ⟨h, _⟩ | ⟨_, h⟩ | ⟨h, _⟩
          · rw [ltR_irr'] at h; cases h
          · exact h
          · rw [ltR_irr'] at h; cases h
      simp only [lt_dec hi', cond_true, idx_nat, hx, Option.bind_some, jn, ref08_Ask_j5, ref08_Ask_j6, order_eq n _ hxr (hi x hxm), order_eq n _ hr hri, e1, e2, wrap_succ (show i < 4611686018427387904 by omega)]
      unfold layS
      simp only
      cases d with
      | true =>
        by_cases h0 : cQ r x = 0
        · simp only [Bool.not_true, cond_false, decide_eq_true h0, Bool.false_and, Bool.false_eq_true, if_false, if_pos h0]
        · simp only [Bool.not_true, cond_false, decide_eq_false h0, Bool.not_false, cond_true, Bool.false_and, Bool.false_eq_true, if_false, if_neg h0, ha acc (by omega), Option.bind_some]
      | false =>
        simp only [Bool.not_false, cond_true, Bool.true_and]
        by_cases hg : cQ r x ≥ 0
        · by_cases h0 : cQ r x = 0
          · simp only [decide_eq_true hg, decide_eq_true h0, cond_true, ha acc (by omega), Option.bind_some, Bool.not_true, cond_false, if_true, if_pos h0]
          · simp only [decide_eq_true hg, decide_eq_false h0, cond_true, ha acc (by omega), Option.bind_some, Bool.not_false, if_true, if_neg h0, ha (acc ++ [q1]) (by simp; omega)]
        · have h0 : ¬ cQ r x = 0 := by omega
          simp only [decide_eq_false hg, decide_eq_false h0, cond_false, Bool.not_false, cond_true, ha acc (by omega), Option.bind_some, Bool.false_eq_true, if_false, if_neg h0]
    · intro k s hI
      obtain ⟨d, acc⟩ := s
      have hI : acc.length ≤ 2 * qs.length := hI
      simp only [ge_dec (Nat.lt_irrefl _), cond_false, jn, ref08_Ask_j7]
      unfold layE
      cases d with
      | true => rfl
      | false =>
        simp only [Bool.not_false, cond_true, app_lt (show acc.length + [q1].length ≤ 1000000 by simp; omega) (show 64 ≤ 1000 by omega), Option.bind_some, Bool.false_eq_true, if_false]
  rw [run_loopI qs (fun i (s : Int × Queue) => (t, m, s.1, qs, (qs.length : Int), (i : Int), Locks.mk qs, r, Locks.mk [], s.2, ())) (fun i x s => .inr (atG r i x s)) (fun _ => some (if !y.isSome && decide (500 ≤ qs.length) then (Locks.mk [], 0, 6) else (Locks.mk (A ++ (askNew (theQ y r) t m).2 :: B), (askNew (theQ y r) t m).1, 0))) (fun i s => s = foldI (atG r) 0 (qs.take i) (-1, Queue.mk r [] [])) ?_ ?_ ?_ n 0 (-1, Queue.mk r [] []) (Nat.zero_le _) (by omega) rfl]
  · rw [List.drop_zero, runL_foldI]
  · intro i s x s' hx hI he
    cases he
    have hlt := (List.getElem?_eq_some_iff.1 hx).1
    have htk : qs.take (i + 1) = qs.take i ++ [x] := by rw [List.take_succ_eq_append_getElem hlt, (List.getElem?_eq_some_iff.1 hx).2]
    have hl2 : (qs.take i).length = i := by rw [List.length_take]; omega
    show atG r i x s = _
    rw [htk, foldI_append, hl2, Nat.zero_add, ← hI]
    rfl
  · intro k i s x hx hi' _
    have hxz := hz x (List.mem_of_getElem? hx)
    have hcp : ref08_copied n x = some x := by
      unfold ref08_copied
      rw [app_lt (by simp; omega) (by omega), Option.bind_some, app_lt (by simp; omega) (by omega)]; rfl
    simp only [lt_dec hi', cond_true, idx_nat, hx, Option.bind_some, jn, ref08_Ask_j2, hcp, wrap_succ (show i < 4611686018427387904 by omega)]
    unfold atG
    cases Res.eqb x.res r <;> rfl
  · intro k s hI
    rw [List.take_length, atG_cut hc] at hI
    subst hI
    have hm2 := (modeB_iff.1 hm)
    have hsup := rsup_eq n (by omega) (held_of hpv.1 t) hm2.2
    have hh1 := fun x => rholds_eq n hn (theQ y r) hpv.1.srt (by omega) t x
    have hh2 := fun w => rstands_eq n hn (theQ y r) hpv.1.wr (by omega) w
    have hw0 : (((theQ y r).waiters.length : Int) == 0) = decide ((theQ y r).waiters.length = 0) := by rw [ibeq]; exact decide_eq_decide.2 (by omega)
    have hneg : decide ((if y.isSome then (A.length : Int) else -1) < 0) = !y.isSome := by
      cases y with
      | none => rfl
      | some q => exact decide_eq_false (by simp)
    have hcovN : y.isSome = false → coversB (heldL (theQ y r).holders t) m = false := fun e => by
      cases y with
      | some q => cases e
      | none => exact covers_zero hm2.1
    have hcovY : coversB (heldL (theQ y r).holders t) m = true → qs = A ++ theQ y r :: B := fun e => by
      cases y with
      | none => rw [hcovN rfl] at e; cases e
      | some q => exact hc.eq
    have h500 : decide ((qs.length : Int) ≥ 500) = decide (500 ≤ qs.length) := decide_eq_decide.2 (by omega)
    have hj3 : ∀ what q1, ref08_Ask_j3 n (what, Locks.mk qs, r, Locks.mk [], q1, ()) = some (Locks.mk (A ++ q1 :: B), what, 0) := fun what q1 => hlay q1 what
    simp only [ge_dec (Nat.lt_irrefl _), cond_false, jn, rheld_eq n hn (theQ y r) (by omega), Option.bind_some, rcovers_eq, hsup, rgoesL_eq n hn (theQ y r) (by omega), hneg, h500, hh1, hh2, hw0, ibne, hj3]
    unfold askNew
    cases hcv : coversB (heldL (theQ y r).holders t) m with
    | true =>
      have hys : y.isSome = true := by
        cases hy : y.isSome with
        | true => rfl
        | false => rw [hcovN hy] at hcv; cases hcv
      simp only [cond_true, hys, Bool.not_true, Bool.false_and, Bool.false_eq_true, if_false, if_true]
      rw [← hcovY hcv]
    | false =>
      simp only [cond_false, Bool.false_eq_true, if_false]
      cases y.isSome <;> cases decide (500 ≤ qs.length) <;> cases goesL (theQ y r).holders t (supM (heldL (theQ y r).holders t) m) <;> cases decide (heldL (theQ y r).holders t = 0) <;> cases decide ((theQ y r).waiters.length = 0) <;> rfl
def fullQ (i : Nat) : Queue := Queue.mk (Res.mk 0 true (i : Int)) [Hold.mk 1 3] []
def fullL (k : Nat) : List Queue := (List.range k).map fullQ
theorem fullQ_ok (i : Nat) : qB (fullQ i) = true := by
  refine qB_iff.2 ⟨by simp [fullQ, resB], by simp [fullQ], ⟨List.pairwise_singleton _ _, fun h hh => ?_, fun h hh => ?_, by simp [fullQ], by simp [fullQ], by simp [fullQ]⟩, rfl⟩
  · rw [List.mem_singleton.1 hh]; exact ⟨by decide, by simp [fullQ, modeB, keyM]⟩
  · rw [List.mem_singleton.1 hh]; exact goesL_iff.2 fun x hx => by rw [List.mem_singleton.1 hx]; exact .inl rfl
theorem full_lock {k : Nat} (hk : k ≤ 500) : lockB (fullL k) = true := by
  refine lockB_of (by simp [fullL]; omega) (fun q hq => ?_) ?_ ?_
  · obtain ⟨i, _, rfl⟩ := List.mem_map.1 hq
    exact fullQ_ok i
  · refine List.pairwise_map.2 (List.pairwise_lt_range.imp fun {a b} h => ?_)
    exact ltR_iff.2 (.inr ⟨rfl, .inr ⟨rfl, by show (a : Int) < (b : Int); omega⟩⟩)
  · have : wT (fullL k) = [] := List.eq_nil_iff_forall_not_mem.2 fun w hw => by
      obtain ⟨q, hq, hw⟩ := mem_wT.1 hw
      obtain ⟨i, _, rfl⟩ := List.mem_map.1 hq
      cases hw
    rw [this]; exact .nil
theorem full_sz {k : Nat} (hk : k ≤ 501) : SzK 100 (fullL k) := ⟨by simp [fullL]; omega, fun q hq => by
  obtain ⟨i, _, rfl⟩ := List.mem_map.1 hq
  simp [fullQ]⟩
theorem full_ids {k : Nat} (hk : k ≤ 501) : IdIn (fullL k) := fun q hq => by
  obtain ⟨i, hi, rfl⟩ := List.mem_map.1 hq
  have := List.mem_range.1 hi
  show 0 ≤ (i : Int) ∧ (i : Int) < 65536
  omega
theorem full_occ {k : Nat} (t : Int) : occQ t 0 (fullL k) = none := by
  cases ho : occQ t 0 (fullL k) with
  | none => rfl
  | some z =>
    obtain ⟨i', q', b', w'⟩ := z
    obtain ⟨⟨j', _, hj'⟩, hb', hw'⟩ := occQ_some ho
    obtain ⟨i, _, rfl⟩ := List.mem_map.1 (List.mem_of_getElem? hj')
    cases hb'
theorem most_end (n : Nat) (hn : 1003 ≤ n) {k : Nat} (hk : k ≤ 501) (o : law08_Op) (ht : txnB o.txn = true) (hr : resB o.res = true) (hri : 0 ≤ o.res.id ∧ o.res.id < 65536) (hm : modeB o.res o.mode = true) (h5 : zOp o ≠ 5) (h6 : zOp o ≠ 6) : law08_LocksMost_j2 n (o, fullL k, ()) = some true := by
  have hz := full_sz hk
  have hs := (hz.sz (Nat.le_refl _)).small
  have hq : (fullL k).length ≤ 1000 := by simp [fullL]; omega
  have hsame : ∀ qs : List Queue, SmallL qs → qs.length ≤ 1000 → ref08_Same n (Locks.mk qs) (Locks.mk qs) = some true := fun qs h1 h2 => by
    rw [rsame_eq n hn (Locks.mk qs) (Locks.mk qs) h1 h2, eqL_refl qE_refl]
  unfold law08_LocksMost_j2 law08_Op_run law08_Op_wants
  simp only [zOp_eq, Option.bind_some, jn, ibeq, decide_eq_false h5, decide_eq_false h6, cond_false, law08_Op_run_j1, law08_Op_run_j2, law08_Op_wants_j1, law08_Op_wants_j2, rright_eq n hn (Locks.mk (fullL k)) hs (full_ids hk), locks_Ask, with56 n hn (Locks.mk (fullL k)) hs hq]
  by_cases hk5 : k ≤ 500
  · have hl := full_lock hk5
    obtain ⟨A, y, B, hc⟩ := cutQ' o.res (lock_srt hl)
    have hz9 : ∀ q ∈ fullL k, q.holders.length ≤ 900 ∧ q.waiters.length ≤ 900 := fun q hqm => by have := hz.2 q hqm; omega
    have hrask := rask_eq n hn hl (full_ids hk) hri hz9 hc ht hr hm (full_occ o.txn)
    simp only [hl, if_true, ht, ask1_eq n hn hl hz9 hc o.mode o.txn 0, hr, hm, Bool.and_self, full_occ, Option.isSome_none, Bool.false_eq_true, if_false, Option.bind_some, hrask, Bool.not_true, cond_false]
    cases hf : !y.isSome && decide (500 ≤ (fullL k).length) with
    | true =>
      simp only [if_true]
      have := hsame [] (fun q hq => by cases hq) (by simp)
      simp [this, locks_Ask_j1]
    | false =>
      have hy : y.isSome = true ∨ (fullL k).length < 500 := by
        rw [Bool.and_eq_false_iff] at hf
        rcases hf with hf | hf
        · exact .inl (by simpa using hf)
        · exact .inr (by simpa using hf)
      have hok := ask_lock hl hc ht hr hm (full_occ o.txn) hy
      have hsz := ask_szK hl hc hz hok
      have hsm2 : SmallL (A ++ (askNew (theQ y o.res) o.txn o.mode).2 :: B) := fun q hqm => by have := hsz.2 q hqm; omega
      have hS := hsame _ hsm2 (by have := hsz.1; omega)
      simp only [Bool.false_eq_true, if_false]
      simp [hS, locks_Ask_j1]
  · have hl : lockB (fullL k) = false := by
      unfold lockB
      rw [decide_eq_false (by simp [fullL]; omega)]; rfl
    have := hsame [] (fun q hq => by cases hq) (by simp)
    simp only [hl, Bool.false_eq_true, if_false, Option.bind_some, Bool.not_false, cond_true]
    simp [this, locks_Ask_j1]
theorem plainLocksMost (more : Int) (key : Bool) (h1 : okT tab 9 (.int .i64) more) (h2 : okT tab 9 .bool key) : ∃ n, law08_LocksMost n more key = some true := by
  obtain ⟨n, hn⟩ : ∃ n, 1000003 ≤ n := ⟨1000003, Nat.le_refl _⟩
  refine ⟨n, ?_⟩
  unfold law08_LocksMost
  have hr1 : remP more 3 = some (more.tmod 3) := by unfold remP; rfl
  have hb1 : -3 < more.tmod 3 ∧ more.tmod 3 < 3 := ⟨by have := Int.lt_tmod_of_pos more (show (0 : Int) < 3 by decide); omega, Int.tmod_lt_of_pos more (by decide)⟩
  have hw1 : IntKind.wrap .i64 (more.tmod 3 + 3) = more.tmod 3 + 3 := wrap_in (by omega)
  have hr2 : remP (more.tmod 3 + 3) 3 = some ((more.tmod 3 + 3) % 3) := by
    unfold remP
    rw [Int.tmod_eq_emod_of_nonneg (by omega)]; rfl
  have hb2 : 0 ≤ (more.tmod 3 + 3) % 3 ∧ (more.tmod 3 + 3) % 3 < 3 := ⟨by omega, by omega⟩
  simp only [wakesL n (by omega), Option.bind_some, Bool.not_true, cond_false, hr1, hw1, hr2]
  obtain ⟨k, hk⟩ : ∃ k : Nat, 499 + (more.tmod 3 + 3) % 3 = (k : Int) := ⟨(499 + (more.tmod 3 + 3) % 3).toNat, by omega⟩
  have hk2 : k ≤ 501 := by omega
  rw [hk, wrap_in (by omega)]
  show law08_LocksMost_l1 n n (key, (k : Int), ((0 : Nat) : Int), [], ()) = _
  unfold law08_LocksMost_l1
  refine loop_to (some true) k (fun i (s : List Queue) => (key, (k : Int), (i : Int), s, ())) (fun i s => s = fullL i) ?_ ?_ n 0 [] (Nat.zero_le _) (by omega) rfl
  · rintro r i s hi rfl
    right
    refine ⟨fullL (i + 1), ?_, rfl⟩
    have hu : IntKind.wrap .u16 (i : Int) = (i : Int) := by rw [IntKind.wrap_u16]; omega
    have happ : app 64 (fullL i) [Queue.mk (Res.mk 0 true (i : Int)) [Hold.mk 1 3] []] = some (fullL (i + 1)) := by
      rw [app_lt (by simp [fullL]; omega) (by omega)]
      unfold fullL
      rw [List.range_succ, List.map_append]
      rfl
    simp only [lt_dec hi, cond_true, hu, happ, Option.bind_some, wrap_succ (show i < 4611686018427387904 by omega)]
  · rintro r s rfl
    simp only [ge_dec (Nat.lt_irrefl _), cond_false, jn]
    cases key with
    | true =>
      simp only [cond_true]
      exact most_end n (by omega) hk2 _ (by decide) (by decide) (by decide) (by decide) (by decide) (by decide)
    | false =>
      simp only [cond_false]
      exact most_end n (by omega) hk2 _ (by decide) (by decide) (by decide) (by decide) (by decide) (by decide)
end Go.Proofs.YtndehfninoimgaaGreat
