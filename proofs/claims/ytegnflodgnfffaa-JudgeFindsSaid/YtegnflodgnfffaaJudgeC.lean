/- Layer 27: which histories may be. The plain law JudgeTells. -/
import Derived.Test.YtegnflodgnfffaaJudgeQ
namespace Go.Proofs.Ytegnflodgnfffaa
open Go.Bur
set_option linter.unusedSimpArgs false
set_option linter.unusedVariables false
set_option maxRecDepth 100000

def entOk (s : Schema) (e : Entry) : Bool := (decide (1 ≤ e.txn) && decide (e.txn ≤ 1073741824)) && (reqOk s e.request && listOk s e.answer.rows)
def dupE (t : Int) (e : Entry) : Bool := (e.txn == t) && endsB e
def entAt (s : Schema) (l : List Entry) (i : Nat) (e : Entry) : Bool := entOk s e && !((l.take i).any (dupE e.txn))
def rightH (h : History) : Bool := (right h.schema && listOk h.schema h.begun) && (decide (h.entries.length ≤ 2000) && allFrom (entAt h.schema h.entries) 0 h.entries)
def chkM (s : Schema) : List Entry → List (Int × Bool) → Bool
  | [], _ => true
  | x :: t, m => (entOk s x && !mget false m x.txn) && chkM s t ((x.txn, endsB x) :: m)
theorem runL_chkM {s : Schema} : ∀ (l : List Entry) (i : Nat) (m : List (Int × Bool)), runL (fun _ x m => if entOk s x && !mget false m x.txn then .inr ((x.txn, endsB x) :: m) else (.inl (some 370) : Option Int ⊕ List (Int × Bool))) (fun _ => some 0) l i m = some (if chkM s l m then 0 else 370)
  | [], _, _ => rfl
  | x :: t, i, m => by
    simp only [runL, chkM]
    by_cases hp : (entOk s x && !mget false m x.txn) = true
    · simp only [hp, if_true, Bool.true_and]; exact runL_chkM t (i + 1) _
    · have hp : (entOk s x && !mget false m x.txn) = false := by simpa using hp
      simp only [hp, Bool.false_and]; rfl
theorem chkM_all {s : Schema} (l : List Entry) : ∀ (t pre : List Entry) (m : List (Int × Bool)), l = pre ++ t → (∀ k, mget false m k = pre.any (dupE k)) → chkM s t m = allFrom (entAt s l) pre.length t
  | [], _, _, _, _ => rfl
  | x :: t, pre, m, hl, hm => by
    have htake : l.take pre.length = pre := by rw [hl]; simp
    simp only [chkM, allFrom]
    have h1 : (entOk s x && !mget false m x.txn) = entAt s l pre.length x := by
      unfold entAt
      rw [htake, hm]
    rw [h1]
    by_cases hp : entAt s l pre.length x = true
    · rw [hp, Bool.true_and, Bool.true_and]
      have hno : pre.any (dupE x.txn) = false := by
        unfold entAt at hp
        rw [htake] at hp
        simp only [Bool.and_eq_true] at hp
        simpa using hp.2
      have := chkM_all (s := s) l t (pre ++ [x]) ((x.txn, endsB x) :: m) (by rw [hl]; simp) (fun k => by
        simp only [mget, List.any_append, List.any_cons, List.any_nil, Bool.or_false]
        by_cases hk : x.txn = k
        · subst hk
          rw [decide_eq_true rfl, hno]
          simp [dupE]
        · rw [decide_eq_false hk]
          simp only [hm k, dupE, show (x.txn == k) = false from by simpa using hk, Bool.false_and, Bool.or_false])
      rw [this, List.length_append]; rfl
    · have hp : entAt s l pre.length x = false := by simpa using hp
      rw [hp, Bool.false_and, Bool.false_and]
theorem keyIn_small {x : Int} (h1 : 1 ≤ x) (h2 : x ≤ 1073741824) : keyIn .i64 x = true := by
  show (decide (IntKind.min .i64 ≤ x) && decide (x ≤ IntKind.max .i64)) = true
  have e1 : IntKind.min .i64 = -9223372036854775808 := rfl
  have e2 : IntKind.max .i64 = 9223372036854775807 := rfl
  rw [e1, e2, Bool.and_eq_true]
  exact ⟨decide_eq_true (by omega), decide_eq_true (by omega)⟩
theorem jcheck_eq (n : Nat) (hn : 3000 ≤ n) (h : History) (hh : SmallH h) : judge_Check n h = some (if rightH h then 0 else 370) := by
  unfold judge_Check rightH
  simp only [jn, checkList_eq n (by omega) _ hh.tables _ hh.begun, Option.bind_some]
  cases hr : right h.schema with
  | false => rfl
  | true =>
    cases hl : listOk h.schema h.begun with
    | false => rfl
    | true =>
      simp only [if_true, Bool.true_and, show ((0 : Int) != 0) = false from rfl, cond_false]
      by_cases hlen : h.entries.length ≤ 2000
      · rw [decide_eq_false (by omega : ¬ (h.entries.length : Int) > 2000), decide_eq_true hlen, Bool.true_and, cond_false]
        show judge_Check_l1 n n (h.entries, (h.entries.length : Int), ((0 : Nat) : Int), h, ([] : List (Int × Bool)), ()) = _
        unfold judge_Check_l1
        refine (run_loopI h.entries (fun (i : Nat) (m : List (Int × Bool)) => (h.entries, (h.entries.length : Int), (i : Int), h, m, ())) (fun _ x m => if entOk h.schema x && !mget false m x.txn then .inr ((x.txn, endsB x) :: m) else .inl (some 370)) (fun _ => some 0) (fun i m => m.length ≤ i) (fun i m x m' _ hm he => ?_) (fun r i m x hx hi hm => ?_) (fun r m _ => ?_) n 0 [] (Nat.zero_le _) (by omega) (Nat.le_refl _)).trans ?_
        · split at he
          · simp only [Sum.inr.injEq] at he
            subst he
            simp only [List.length_cons]; omega
          · cases he
        · simp only [lt_dec hi, cond_true, idx_nat, hx, Option.bind_some, wrap_succ (show i < 4611686018427387904 by omega), checkReq_eq n (by omega) _ hh.tables, checkList_eq n (by omega) _ hh.tables _ (hh.each x (List.mem_of_getElem? hx)), hr, if_true, ends_eq]
          by_cases h1 : 1 ≤ x.txn
          · by_cases h2 : x.txn ≤ 1073741824
            · have hk := keyIn_small h1 h2
              have e1 : mlook .i64 false m x.txn = some (mget false m x.txn) := by unfold mlook; rw [hk]
              have e2 : mput .i64 m x.txn (endsB x) = some ((x.txn, endsB x) :: m) := by unfold mput; rw [hk, Bool.true_and, show Nat.ble m.length 1000000 = true from Nat.ble_eq_true_of_le (by omega)]
              rw [decide_eq_false (by omega : ¬ x.txn < 1), decide_eq_false (by omega : ¬ x.txn > 1073741824)]
              simp only [cond_false, e1, e2, Option.bind_some]
              unfold entOk
              rw [decide_eq_true h1, decide_eq_true h2]
              cases mget false m x.txn <;> cases reqOk h.schema x.request <;> cases listOk h.schema x.answer.rows <;> rfl
            · rw [decide_eq_false (by omega : ¬ x.txn < 1), decide_eq_true (by omega : x.txn > 1073741824)]
              unfold entOk
              rw [decide_eq_false h2]
              simp
              rfl
          · rw [decide_eq_true (by omega : x.txn < 1)]
            unfold entOk
            rw [decide_eq_false h1]
            simp
            rfl
        · simp only [ge_dec (Nat.lt_irrefl _), cond_false]
        · rw [List.drop_zero, runL_chkM, chkM_all h.entries h.entries [] [] rfl (fun k => rfl)]; rfl
      · rw [decide_eq_true (by omega : (h.entries.length : Int) > 2000), decide_eq_false hlen]; rfl
theorem rright27_eq (n : Nat) (hn : 3000 ≤ n) (h : History) (hh : SmallH h) : ref27_Right n h = some (rightH h) := by
  unfold ref27_Right rightH
  simp only [jn, right_eq n (by omega) _ hh.tables, rightList_eq n (by omega) _ _ hh.begun, Option.bind_some]
  cases hr : right h.schema with
  | false => rfl
  | true =>
    cases hl : listOk h.schema h.begun with
    | false => rfl
    | true =>
      simp only [Bool.not_true, cond_false, Bool.true_and]
      by_cases hlen : h.entries.length ≤ 2000
      · rw [decide_eq_false (by omega : ¬ (h.entries.length : Int) > 2000), decide_eq_true hlen, Bool.true_and, cond_false]
        show ref27_Right_l1 n n (((0 : Nat) : Int), h, ()) = _
        unfold ref27_Right_l1
        refine (run_loop h.entries (fun (i : Nat) (_ : Unit) => ((i : Int), h, ())) (fun i x _ => if entAt h.schema h.entries i x then .inr () else .inl (some false)) (fun _ => some true) (fun r i q x hx hi => ?_) (fun r q => ?_) n 0 () (Nat.zero_le _) (by omega)).trans ?_
        · have hl2 : ref27_Right_l2 n r n ((i : Int), 0, h, x, ()) = if (h.entries.take i).any (dupE x.txn) then some false else r (((i + 1 : Nat) : Int), h, ()) := by
            show ref27_Right_l2 n r n ((i : Int), ((0 : Nat) : Int), h, x, ()) = _
            unfold ref27_Right_l2
            have hti : (h.entries.take i).length = i := by simp; omega
            refine (run_loop (h.entries.take i) (fun (j : Nat) (_ : Unit) => ((i : Int), (j : Int), h, x, ())) (fun _ y _ => if dupE x.txn y then .inl (some false) else .inr ()) (fun _ => r (((i + 1 : Nat) : Int), h, ())) (fun r2 j _ y hy hj => ?_) (fun r2 _ => ?_) n 0 () (Nat.zero_le _) (by omega)).trans ?_
            · have hj' : j < i := by omega
              have hy' : h.entries[j]? = some y := by rw [List.getElem?_take] at hy; split at hy <;> first | exact hy | cases hy
              simp only [lt_dec hj', cond_true, idx_nat, hy', Option.bind_some, jn, rends_eq, wrap_succ (show j < 4611686018427387904 by omega)]
              unfold dupE
              cases (y.txn == x.txn) <;> cases endsB y <;> rfl
            · simp only [hti, ge_dec (Nat.lt_irrefl _), cond_false, wrap_succ (show i < 4611686018427387904 by omega)]
            · rw [List.drop_zero, runL_any]
          simp only [lt_dec hi, cond_true, idx_nat, hx, Option.bind_some, jn, rightReq_eq n _ hr, rightList_eq n (by omega) _ _ (hh.each x (List.mem_of_getElem? hx)), hl2]
          unfold entAt entOk
          by_cases h1 : 1 ≤ x.txn
          · by_cases h2 : x.txn ≤ 1073741824
            · rw [decide_eq_false (by omega : ¬ x.txn < 1), decide_eq_false (by omega : ¬ x.txn > 1073741824), decide_eq_true h1, decide_eq_true h2]
              cases reqOk h.schema x.request <;> cases listOk h.schema x.answer.rows <;> cases (h.entries.take i).any (dupE x.txn) <;> rfl
            · rw [decide_eq_false (by omega : ¬ x.txn < 1), decide_eq_true (by omega : x.txn > 1073741824), decide_eq_false h2]
              simp
          · rw [decide_eq_true (by omega : x.txn < 1), decide_eq_false h1]
            simp
        · simp only [ge_dec (Nat.lt_irrefl _), cond_false]
        · rw [List.drop_zero, runL_allFrom]
          cases allFrom (entAt h.schema h.entries) 0 h.entries <;> rfl
      · rw [decide_eq_true (by omega : (h.entries.length : Int) > 2000), decide_eq_false hlen]; rfl
theorem jorder_eq (n : Nat) (hn : 3000 ≤ n) (h : History) (hh : SmallH h) : judge_Order n h = some (if rightH h then (0, (h.entries.filter commits).map Entry.txn) else (370, [])) := by
  unfold judge_Order
  simp only [jcheck_eq n hn h hh, order_eq n hn h hh.entries, Option.bind_some]
  cases rightH h <;> rfl
theorem sameL_reflE : ∀ (l : List Entry), sameL entSame l l = true := sameL_refl fun x => by
  unfold entSame
  simp [ansSame_refl, Request.eqb]
theorem hisSame_refl (h : History) : hisSame h h = true := by
  unfold hisSame
  rw [sameL_refl bounds_eqb, rowsSame_refl, sameL_reflE]; rfl
theorem plainJudgeTells (h o : History) (h1 : okT tab 9 (.st 7) h) (h2 : okT tab 9 (.st 7) o) : ∃ n, law27_JudgeTells n h o = some true := by
  refine ⟨4000, ?_⟩
  have hn : 3000 ≤ 4000 := by omega
  unfold law27_JudgeTells
  simp only [wakes27, over27_eq 4000 hn, Option.bind_some, jn, Bool.not_true, cond_false]
  cases ho : overH h with
  | true => rfl
  | false =>
    cases ho2 : overH o with
    | true => rfl
    | false =>
      have hh := overH_small ho
      simp only [cond_false, jcheck_eq 4000 hn h hh, jorder_eq 4000 hn h hh, jsame_eq 4000 hn h _ hh, rsame27_eq 4000 hn h o hh, hisSame_refl, Option.bind_some, show (!(hisSame h o == hisSame h o)) = false from by simp, Bool.not_true]
      have hfin : ∀ (v : Int × Int × List Int), v = (if rightH h then (0, 0, (h.entries.filter commits).map Entry.txn) else (370, 370, [])) → law27_JudgeTells_l1 4000 4000 (v.1, v.2.1, h.entries, (h.entries.length : Int), ((0 : Nat) : Int), h, v.2.2, ()) = some true := fun v hv => by
        unfold law27_JudgeTells_l1
        have he := hh.entries
        refine (run_loop h.entries (fun (i : Nat) (_ : Unit) => (v.1, v.2.1, h.entries, (h.entries.length : Int), (i : Int), h, v.2.2, ())) (fun i x _ => .inr ()) (fun _ => some true) (fun r i q x hx hi => ?_) (fun r q => ?_) 4000 0 () (Nat.zero_le _) (by omega)).trans ?_
        · simp only [lt_dec hi, cond_true, idx_nat, hx, Option.bind_some, passes_eq, rpasses_eq, show (!(passesB x == passesB x)) = false from by simp, cond_false, wrap_succ (show i < 4611686018427387904 by omega)]
        · simp only [ge_dec (Nat.lt_irrefl _), cond_false, rright27_eq 4000 hn h hh, rorder_eq 4000 hn h hh.entries, Option.bind_some, jn]
          cases hr : rightH h with
          | false => rw [hr] at hv; subst hv; rfl
          | true =>
            rw [hr] at hv
            subst hv
            have hlen : ((h.entries.filter commits).map Entry.txn).length ≤ 2100 := by
              rw [List.length_map]
              exact Nat.le_trans (List.length_filter_le _ _) he
            simp only [if_true, sameInts_refl 4000 hn _ hlen, Option.bind_some]
            rfl
        · rw [runL_skip]
      have := hfin _ rfl
      cases hr : rightH h with
      | false => rw [hr] at this; exact this
      | true => rw [hr] at this; exact this
end Go.Proofs.Ytegnflodgnfffaa
