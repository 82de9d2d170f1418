/- Escrows: the document's sums, finding, ends, likeness, copies. -/
import Derived.Test.YtfidbgcdjmhjnaaEscC
namespace Go.Proofs.Ytfidbgcdjmhjnaa
open Go.Bur
set_option linter.unusedSimpArgs false
set_option linter.unusedVariables false
set_option maxRecDepth 100000

/-! ### The document's Add -/
theorem own_fold {l A B : List Share} {y : Option Share} {t : Int} (h : Cut (cT t) l A y B) : l.foldl (fun (s : Bool × Share) x => if x.txn = t then (true, x) else s) (false, ⟨t, 0, 0, 0⟩) = (y.isSome, ownS t y) := by
  rw [h.eq, List.foldl_append, List.foldl_append]
  rw [foldl_same (l := A) fun x hx => if_neg fun e => by have := h.lo x hx; have := cmpI_zero.2 e; unfold cT at *; omega]
  have hB : ∀ s : Bool × Share, B.foldl (fun (s : Bool × Share) x => if x.txn = t then (true, x) else s) s = s := fun s => foldl_same fun x hx => if_neg fun e => by have := h.hi x hx; have := cmpI_zero.2 e; unfold cT at *; omega
  rw [hB]
  cases y with
  | none => rfl
  | some r =>
    have := cmpI_zero.1 (h.mid r rfl)
    simp only [Option.toList_some, List.foldl_cons, List.foldl_nil, if_pos this]
    rfl
section
variable {n : Nat} {p : Pending} {t d : Int} {b : Bounds} {A B : List Share} {y : Option Share}
theorem widened_eq (hn : 1003 ≤ n) (hp : PendIn p) (hc : Cut (cT t) p.shares A y B) (hl : p.shares.length ≤ 90) (hd : I64 d) (hb : I64 b.min ∧ I64 b.max) :
    ∃ p', ref10_widened n p t d b = some (p', addErr p t d b A y B) ∧ (addErr p t d b A y B = 0 → p' = addTo p A B (newS (ownS t y) ((ownS t y).sum + d))) := by
  have hown := own_in hp hc
  unfold ref10_widened
  simp only [jn_or]
  have e0 : (((decide (t < 1)) || (decide (t > 1073741824))) || (decide (b.min > b.max))) = (!txnB t || decide (b.min > b.max)) := by
    congr 1
    unfold txnB
    rw [Bool.eq_iff_iff]; simp only [Bool.or_eq_true, Bool.not_eq_true', decide_eq_true_iff, decide_eq_false_iff_not]; omega
  rw [e0]
  unfold addErr
  cases h1 : (!txnB t || decide (b.min > b.max)) with
  | true => exact ⟨_, rfl, fun h => by cases h⟩
  | false =>
    simp only [cond_false, Bool.false_eq_true, if_false]
    have e8 : decide ((p.shares.length : Int) ≥ 8) = decide (8 ≤ p.shares.length) := decide_eq_decide.2 (by omega)
    -- the third loop
    have h3 : fits ((ownS t y).sum + d) = true → ∃ p', ref10_widened_l3 n n (t, false, p.shares, (p.shares.length : Int), 0, p, b, Pending.mk (Key.mk 0 0) 0 [], [], newS (ownS t y) ((ownS t y).sum + d), ()) = some (p', if overB (addTo p A B (newS (ownS t y) ((ownS t y).sum + d))) b then 152 else 0) ∧ p' = addTo p A B (newS (ownS t y) ((ownS t y).sum + d)) := fun hf => by
      have hx := fits_i64 hf
      have ho : (newS (ownS t y) ((ownS t y).sum + d)).txn = t := by
        unfold newS ownS
        cases y with
        | none => rfl
        | some r => exact cmpI_zero.1 (hc.mid r rfl)
      have hnin := newS_in (o := ownS t y) hown hx
      have hin := addTo_in hp hc hnin
      generalize newS (ownS t y) ((ownS t y).sum + d) = o at ho hnin hin ⊢
      have hlen := cut_len hc
      have hlen2 : (addTo p A B o).shares.length ≤ 98 := by simp [addTo]; omega
      refine ⟨_, ?_, rfl⟩
      show ref10_widened_l3 n n (t, false, p.shares, (p.shares.length : Int), ((0 : Nat) : Int), p, b, Pending.mk (Key.mk 0 0) 0 [], [], o, ()) = _
      unfold ref10_widened_l3
      have fin : ∀ s : Bool × List Share, layE o s = A ++ o :: B → s.2.length ≤ 900 → (jn (ref10_widened_j6 n) fun j6 =>
          cond (!s.1)
            ((app 32 s.2 ([o] : List Share)).bind fun l81 =>
            j6 (p, b, Pending.mk (Key.mk 0 0) 0 [], l81, ()))
            (j6 (p, b, Pending.mk (Key.mk 0 0) 0 [], s.2, ()))) = some (addTo p A B o, if overB (addTo p A B o) b then 152 else 0) := fun s hs hsl => by
        have h6 : ref10_widened_j6 n (p, b, Pending.mk (Key.mk 0 0) 0 [], A ++ o :: B, ()) = some (addTo p A B o, if overB (addTo p A B o) b then 152 else 0) := by
          unfold ref10_widened_j6
          have e1 := ends_eq hn hin hlen2
          unfold addTo at e1
          simp only [e1, bof_eq, Option.bind_some, above_eq, jn_or]
          unfold overB
          have g1 : decide (b.min > lowZ (addTo p A B o)) = decide (lowZ (addTo p A B o) < b.min) := decide_eq_decide.2 Iff.rfl
          show (cond (decide (b.min > lowZ (addTo p A B o)) || decide (highZ (addTo p A B o) > b.max)) _ _) = _
          rw [g1]
          cases decide (lowZ (addTo p A B o) < b.min) <;> cases decide (highZ (addTo p A B o) > b.max) <;> rfl
        have a1 : app 32 s.2 [o] = some (s.2 ++ [o]) := app_lt (by simp; omega) (by decide)
        unfold layE at hs
        simp only [jn, a1, Option.bind_some]
        cases hs1 : s.1 <;> simp only [hs1, Bool.false_eq_true, if_false, if_true] at hs
        · rw [hs]; simp only [Bool.not_false, cond_true]; exact h6
        · rw [hs]; simp only [Bool.not_true, cond_false]; exact h6
      refine (run_loopI p.shares (fun (i : Nat) (s : Bool × List Share) => (t, s.1, p.shares, (p.shares.length : Int), (i : Int), p, b, Pending.mk (Key.mk 0 0) 0 [], s.2, o, ())) (fun _ x s => .inr (layS (cT t) o x s)) (fun s => (jn (ref10_widened_j6 n) fun j6 =>
          cond (!s.1)
            ((app 32 s.2 ([o] : List Share)).bind fun l81 =>
            j6 (p, b, Pending.mk (Key.mk 0 0) 0 [], l81, ()))
            (j6 (p, b, Pending.mk (Key.mk 0 0) 0 [], s.2, ())))) (fun i s => s.2.length ≤ 2 * i) (fun i s x s' hx hi hs => ?_) (fun r i s x hx hi hs => ?_) (fun r s hs => ?_) n 0 (false, []) (Nat.zero_le _) (by omega) (by simp)).trans ?_
      · injection hs with hs
        subst hs
        have := layS_len (c := cT t) (o := o) (x := x) (s := s)
        omega
      · obtain ⟨bb, acc⟩ := s
        simp only at hs
        have a1 : app 32 acc [o] = some (acc ++ [o]) := app_lt (by simp; omega) (by decide)
        have a2 : app 32 acc [x] = some (acc ++ [x]) := app_lt (by simp; omega) (by decide)
        have a3 : app 32 (acc ++ [o]) [x] = some (acc ++ [o] ++ [x]) := app_lt (by simp; omega) (by decide)
        have g1 : decide (x.txn ≥ t) = decide (cT t x ≥ 0) := decide_eq_decide.2 (by have := cmpI_lt (a := x.txn) (b := t); unfold cT; omega)
        have g2 : (x.txn != t) = !decide (cT t x = 0) := by
          rw [ibne]; congr 1; exact decide_eq_decide.2 (by unfold cT; exact cmpI_zero.symm)
        simp only [lt_dec hi, cond_true, idx_nat, hx, Option.bind_some, jn, ref10_widened_j4, ref10_widened_j5, wrap_succ (show i < 4611686018427387904 by omega), g1, g2, a1, a2, a3, layS]
        cases bb <;> by_cases h5 : cT t x = 0 <;> by_cases h6 : cT t x ≥ 0 <;> simp [h5, h6]
      · simp only [ge_dec (Nat.lt_irrefl _), cond_false]
      · rw [List.drop_zero, runL_fold]
        refine fin _ (by rw [lay_in hc]; rfl) ?_
        have := lay_len (c := cT t) (o := o) (l := p.shares) (s := (false, []))
        simp at this; omega
    show ∃ p', ref10_widened_l1 n n (t, d, false, p.shares, (p.shares.length : Int), ((0 : Nat) : Int), p, b, Pending.mk (Key.mk 0 0) 0 [], [], Share.mk t 0 0 0, ()) = _ ∧ _
    have h2 : ref10_widened_l1 n n (t, d, false, p.shares, (p.shares.length : Int), ((0 : Nat) : Int), p, b, Pending.mk (Key.mk 0 0) 0 [], [], Share.mk t 0 0 0, ()) = cond (!y.isSome && decide (8 ≤ p.shares.length)) (some (p, 6)) (cond (!fits ((ownS t y).sum + d)) (some (p, 152)) (ref10_widened_l3 n n (t, false, p.shares, (p.shares.length : Int), 0, p, b, Pending.mk (Key.mk 0 0) 0 [], [], newS (ownS t y) ((ownS t y).sum + d), ()))) := by
      unfold ref10_widened_l1
      refine (run_loop p.shares (fun (i : Nat) (s : Bool × Share) => (t, d, s.1, p.shares, (p.shares.length : Int), (i : Int), p, b, Pending.mk (Key.mk 0 0) 0 [], ([] : List Share), s.2, ())) (fun _ x s => .inr (if x.txn = t then (true, x) else s)) (fun s => cond (!s.1 && decide ((p.shares.length : Int) ≥ 8)) (some (p, 6))
            ((ref10_Of n s.2.sum).bind fun y30 =>
            (ref10_Of n d).bind fun y31 =>
            (ref10_Plus n y30 y31).bind fun y32 =>
            (ref10_Small n y32).bind fun y33 =>
            cond (!y33.2)
              (some (p, 152))
              (ref10_widened_l3 n n (t, false, p.shares, (p.shares.length : Int), 0, p, b, Pending.mk (Key.mk 0 0) 0 [], [], (Share.mk s.2.txn y33.1 (if y33.1 > s.2.hi then y33.1 else s.2.hi) (if y33.1 < s.2.lo then y33.1 else s.2.lo)), ())))) (fun r i s x hx hi => ?_) (fun r s => ?_) n 0 (false, ⟨t, 0, 0, 0⟩) (Nat.zero_le _) (by omega)).trans ?_
      · simp only [lt_dec hi, cond_true, idx_nat, hx, Option.bind_some, jn, ref10_widened_j2, wrap_succ (show i < 4611686018427387904 by omega), ibeq]
        by_cases h5 : x.txn = t
        · rw [decide_eq_true h5, if_pos h5]; rfl
        · rw [decide_eq_false h5, if_neg h5]; rfl
      · simp only [ge_dec (Nat.lt_irrefl _), cond_false, jn_and]
      · obtain ⟨o1, o2, o3⟩ := hown
        rw [List.drop_zero, runL_fold, own_fold hc]
        simp only [bof_eq, Option.bind_some, e8]
        rw [bplus_eq n (by omega) (by omega)]
        simp only [Option.bind_some, rsmall_eq n _ (show -9223372036854775808000000 ≤ (ownS t y).sum + d ∧ (ownS t y).sum + d ≤ 9223372036854775808000000 by omega)]
        cases fits ((ownS t y).sum + d) <;> rfl
    rw [h2]
    cases h7 : (!y.isSome && decide (8 ≤ p.shares.length)) with
    | true => exact ⟨_, rfl, fun h => by simp at h⟩
    | false =>
      cases hf : fits ((ownS t y).sum + d) with
      | false => exact ⟨_, rfl, fun h => by simp at h⟩
      | true =>
        obtain ⟨p', g1, g2⟩ := h3 hf
        exact ⟨p', g1, fun _ => g2⟩
theorem cloneS (n : Nat) {l : List Share} (h : l.length ≤ 1000) : slices_Clone_Share n l = some l := clone_eq (by omega) (by decide)
theorem cloneP (n : Nat) {l : List Pending} (h : l.length ≤ 1000) : slices_Clone_Pending n l = some l := clone_eq (by omega) (by decide)
theorem rightP_chain (h : rightP p = true) : chainB shareOk ltT none p.shares = true := by
  unfold rightP at h
  simp only [Bool.and_eq_true] at h
  exact h.1.1.2
end
/-! ### Copies -/
def fewP (p : Pending) : Pending := ⟨p.key, p.value, p.shares.take 9⟩
def fewL (l : List Pending) : List Pending := (l.take 61).map fewP
theorem few_eq (n : Nat) (hn : 1003 ≤ n) (l : List Pending) : law10_few n ⟨l⟩ = some ⟨fewL l⟩ := by
  show law10_few_l2 n (law10_few_j1 n) n (l, (l.length : Int), ((0 : Nat) : Int), Escrow.mk [], [], ()) = _
  unfold law10_few_l2
  have key : ∀ m i (acc : List Pending), i ≤ min l.length 61 → min l.length 61 - i < m → acc.length = i → loopF (fun r2 ⟨v3, v4, v5, v6, v7, _⟩ =>
    cond (decide (v5 < v4))
      ((idx v3 v5).bind fun x8 =>
      cond (decide (v5 > 60))
        (law10_few_j1 n (v6, v7, ()))
        ((sub x8.shares 0 (if 9 < (x8.shares.length : Int) then 9 else (x8.shares.length : Int))).bind fun l9 =>
        (app 32 ([] : List Share) l9).bind fun l10 =>
        (app 48 v7 ([(Pending.mk x8.key x8.value l10)] : List Pending)).bind fun l11 =>
        r2 (v3, v4, (IntKind.wrap .i64 (v5 + 1)), v6, l11, ())))
      (law10_few_j1 n (v6, v7, ()))) m (l, (l.length : Int), (i : Int), Escrow.mk [], acc, ()) = some ⟨acc ++ ((l.take 61).drop i).map fewP⟩ := by
    intro m
    induction m with
    | zero => intro i acc _ h; omega
    | succ m ih =>
      intro i acc hi hm ha
      show cond (decide ((i : Int) < (l.length : Int))) _ _ = _
      by_cases h : i < min l.length 61
      · have hil : i < l.length := by omega
        have hs : sub (l[i]).shares 0 (if 9 < ((l[i]).shares.length : Int) then 9 else ((l[i]).shares.length : Int)) = some ((l[i]).shares.take 9) := by
          by_cases h9 : 9 < ((l[i]).shares.length : Int)
          · rw [if_pos h9]
            have := sub_ok (l := (l[i]).shares) (a := 0) (b := 9) (by omega) (by omega)
            simpa using this
          · rw [if_neg h9]
            have := sub_ok (l := (l[i]).shares) (a := 0) (b := (l[i]).shares.length) (by omega) (by omega)
            rw [List.take_of_length_le (show (l[i]).shares.length ≤ 9 by omega)]
            simpa using this
        have a1 : app 32 ([] : List Share) ((l[i]).shares.take 9) = some ((l[i]).shares.take 9) := by rw [app_lt (by simp; omega) (by decide)]; rfl
        have a2 : app 48 acc [Pending.mk (l[i]).key (l[i]).value ((l[i]).shares.take 9)] = some (acc ++ [fewP l[i]]) := by rw [app_lt (by simp; omega) (by decide)]; rfl
        rw [lt_dec hil]
        simp only [cond_true, idx_nat, get_some hil, Option.bind_some, decide_eq_false (show ¬ (i : Int) > 60 by omega), cond_false, hs, a1, a2, wrap_succ (show i < 4611686018427387904 by omega)]
        rw [ih (i + 1) (acc ++ [fewP l[i]]) (by omega) (by omega) (by simp; omega)]
        congr 2
        rw [List.drop_eq_getElem_cons (l := l.take 61) (i := i) (by simp; omega)]
        simp
      · have hz : (l.take 61).drop i = [] := List.drop_eq_nil_of_le (by simp; omega)
        rw [hz]
        simp only [List.map_nil, List.append_nil]
        by_cases hil : i < l.length
        · rw [lt_dec hil]
          simp only [cond_true, idx_nat, get_some hil, Option.bind_some, decide_eq_true (show (i : Int) > 60 by omega)]
          rfl
        · rw [ge_dec hil]; rfl
  have := key n 0 [] (by omega) (by omega) rfl
  rw [List.drop_zero, List.nil_append] at this
  exact this
theorem few_len (l : List Pending) : (fewL l).length ≤ 61 := by unfold fewL; simp; omega
end Go.Proofs.Ytfidbgcdjmhjnaa
