/- Layer 11, plain: what the document's own functions compute. -/
import Derived.Test.YtjgcapbmhcmcfaaPlainHo
namespace Go.Proofs.Ytjgcapbmhcmcfaa
open Go.Bur
set_option linter.unusedSimpArgs false
set_option linter.unusedVariables false
set_option maxRecDepth 100000

/-! ### Right -/
theorem rtable_eq (n : Nat) (t : Int) : ref06_table n t = some (okTab t) := by
  unfold ref06_table okTab jn
  cases decide (t ≥ 0) <;> rfl
theorem rightRow_eq (n : Nat) (r : Row) : ref06_RightRow n r = some (okRow r) := by
  unfold ref06_RightRow okRow
  rw [rtable_eq]
  have h : decide ((r.note.size : Int) ≤ 8) = !decide ((r.note.size : Int) > 8) := by
    by_cases h : (r.note.size : Int) > 8
    · rw [decide_eq_true h, decide_eq_false (by omega)]; rfl
    · rw [decide_eq_false h, decide_eq_true (by omega)]; rfl
  simp only [Option.bind_some, jn, h]
  cases okTab r.key.table <;> rfl
/-- Keys as they are handed over. -/
def KeyIn (k : Key) : Prop := 0 ≤ k.id ∧ k.id < 65536
theorem order_lt (n : Nat) {a b : Key} (ha : KeyIn a) (hb : KeyIn b) (ta : okTab a.table = true) (tb : okTab b.table = true) : ∃ x y, ref06_order n a = some x ∧ ref06_order n b = some y ∧ decide (x ≥ y) = !ltK a b := by
  unfold okTab at ta tb
  simp only [Bool.and_eq_true, decide_eq_true_iff] at ta tb
  obtain ⟨a1, a2⟩ := ha
  obtain ⟨b1, b2⟩ := hb
  refine ⟨a.table * 65536 + a.id, b.table * 65536 + b.id, ?_, ?_, ?_⟩
  · unfold ref06_order
    rw [wrap_in (x := a.table * 65536) (by omega), wrap_in (x := a.id) (by omega), wrap_in (by omega)]
  · unfold ref06_order
    rw [wrap_in (x := b.table * 65536) (by omega), wrap_in (x := b.id) (by omega), wrap_in (by omega)]
  · cases h : ltK a b with
    | true => rw [ltK_iff] at h; exact decide_eq_false (by omega)
    | false =>
      have h : ¬ ltK a b = true := by rw [h]; decide
      rw [ltK_iff] at h
      exact decide_eq_true (by omega)
def goR (p : Option Key) (r : Row) : Bool := okRow r && (match p with | none => true | some k => ltK k r.key)
theorem risesR_cons (p : Option Key) (r : Row) (t : List Row) : risesR p (r :: t) = (goR p r && risesR (some r.key) t) := by cases p <;> rfl
theorem rises_run2 (l : List Row) (v : Bool) : ∀ (t : List Row) (i : Nat), l.drop i = t → i ≤ l.length →
    runL (R := Bool) (fun (i : Nat) (r : Row) (_ : Unit) => if goR (prevK l i) r then .inr () else .inl (some false)) (fun _ => some v) t i () = some (v && risesR (prevK l i) t)
  | [], i, h, hi => by simp [runL, risesR]
  | r :: t, i, h, hi => by
    have hr : l[i]? = some r := by
      have := congrArg (fun x => x[0]?) h
      simpa using this
    have ht : l.drop (i + 1) = t := by rw [← List.drop_drop, h]; rfl
    have hlt : i < l.length := by
      rcases Nat.lt_or_ge i l.length with h1 | h1
      · exact h1
      · rw [List.drop_eq_nil_of_le h1] at h; cases h
    have ih := rises_run2 l v t (i + 1) ht hlt
    have hp : prevK l (i + 1) = some r.key := by simp [prevK, hr]
    rw [hp] at ih
    by_cases hg : goR (prevK l i) r = true
    · simp only [runL, hg, if_true, risesR_cons, Bool.true_and]
      exact ih
    · have hg : goR (prevK l i) r = false := by simpa using hg
      simp only [runL, hg, risesR_cons, Bool.false_and, Bool.and_false]
      rfl
theorem rrows_eq (n : Nat) (hn : 1003 ≤ n) (l : List Row) (hl : l.length ≤ 1000) (hk : ∀ r ∈ l, KeyIn r.key) : ref06_rows n l = some (decide (l.length ≤ 4) && risesR none l) := by
  show ref06_rows_l1 n n (l, l, (l.length : Int), ((0 : Nat) : Int), ()) = _
  unfold ref06_rows_l1
  refine (run_loopI (R := Bool) l (fun (i : Nat) (_ : Unit) => (l, l, (l.length : Int), (i : Int), ())) (fun i r _ => if goR (prevK l i) r then .inr () else .inl (some false)) (fun _ => some (decide (l.length ≤ 4)))
    (fun i _ => ∀ j x, i = j + 1 → l[j]? = some x → okRow x = true) (fun i s x s' hx hi hs => ?_) (fun r i s x hx hi hs => ?_) (fun r s hs => ?_) n 0 () (by omega) (by omega) (fun j x h => by omega)).trans ?_
  · intro j y hj hy
    obtain rfl : i = j := by omega
    rw [hx] at hy
    obtain rfl := Option.some.inj hy
    by_cases hg : goR (prevK l i) x = true
    · unfold goR at hg; simp only [Bool.and_eq_true] at hg; exact hg.1
    · rw [if_neg hg] at hs; cases hs
  · simp only [lt_dec hi, cond_true, idx_nat, hx, Option.bind_some, rightRow_eq, jn, wrap_succ (show i < 4611686018427387904 by omega)]
    unfold goR
    by_cases ho : okRow x = true
    · rw [ho]
      cases i with
      | zero => simp [prevK]
      | succ i =>
        have hi' : l[i]? = some l[i] := get_some (by omega)
        have hprev : okRow l[i] = true := hs i _ rfl hi'
        have hta : okTab l[i].key.table = true := by unfold okRow at hprev; simp only [Bool.and_eq_true] at hprev; exact hprev.1
        have htb : okTab x.key.table = true := by unfold okRow at ho; simp only [Bool.and_eq_true] at ho; exact ho.1
        obtain ⟨u, v, e1, e2, e3⟩ := order_lt n (hk l[i] (List.getElem_mem _)) (hk x (List.mem_of_getElem? hx)) hta htb
        have h0 : decide (((i + 1 : Nat) : Int) > 0) = true := decide_eq_true (by omega)
        simp only [Bool.not_true, cond_false, h0, cond_true, wrap_pred (show i < 4611686018427387904 by omega), idx_nat, hi', Option.bind_some, e1, e2, e3, prevK, Option.map_some, Bool.true_and]
        cases ltK l[i].key x.key <;> rfl
    · have ho : okRow x = false := by simpa using ho
      rw [ho]; rfl
  · simp only [ge_dec (Nat.lt_irrefl _), cond_false]
    congr 1
    by_cases h : l.length ≤ 4
    · rw [decide_eq_true h, decide_eq_true (by omega)]
    · rw [decide_eq_false h, decide_eq_false (by omega)]
  · rw [List.drop_zero, rises_run2 l _ l 0 rfl (by omega)]
    rfl

/-! ### Kids -/
def seen (l : List Kid) (i : Nat) : List (Int × Bool) := ((l.take i).map fun k => (k.page, true)).reverse
theorem seen_succ {l : List Kid} {i : Nat} {x : Kid} (h : l[i]? = some x) : seen l (i + 1) = (x.page, true) :: seen l i := by
  unfold seen
  rw [List.take_add_one, h]
  simp
theorem mget_any (q : List (Int × Bool)) (hq : ∀ p ∈ q, p.2 = true) (x : Int) : mget false q x = q.any fun p => decide (p.1 = x) := by
  induction q with
  | nil => rfl
  | cons p t ih =>
    obtain ⟨a, b⟩ := p
    have hb : b = true := hq (a, b) (by simp)
    subst hb
    simp only [mget, List.any_cons]
    by_cases h : a = x
    · rw [decide_eq_true h]; rfl
    · rw [decide_eq_false h]
      simp only [Bool.false_or]
      exact ih fun p hp => hq p (by simp [hp])
theorem mget_seen (l : List Kid) (i : Nat) (x : Int) : mget false (seen l i) x = (l.take i).any fun k => decide (k.page = x) := by
  rw [mget_any _ (by
    intro p hp
    unfold seen at hp
    simp only [List.mem_reverse, List.mem_map] at hp
    obtain ⟨k, _, rfl⟩ := hp
    rfl)]
  unfold seen
  rw [List.any_reverse, List.any_map]
  rfl
theorem risesK_cons (p : Option Key) (q : List (Int × Bool)) (k : Kid) (t : List Kid) : risesK p q (k :: t) = (goK p q k && risesK (some k.least) ((k.page, true) :: q) t) := rfl
theorem risesK_run2 (l : List Kid) (v : Bool) : ∀ (t : List Kid) (i : Nat), l.drop i = t → i ≤ l.length →
    runL (R := Bool) (fun (i : Nat) (k : Kid) (_ : Unit) => if goK (prevL l i) (seen l i) k then .inr () else .inl (some false)) (fun _ => some v) t i () = some (v && risesK (prevL l i) (seen l i) t)
  | [], i, h, hi => by simp [runL, risesK]
  | k :: t, i, h, hi => by
    have hr : l[i]? = some k := by
      have := congrArg (fun x => x[0]?) h
      simpa using this
    have ht : l.drop (i + 1) = t := by rw [← List.drop_drop, h]; rfl
    have hlt : i < l.length := by
      rcases Nat.lt_or_ge i l.length with h1 | h1
      · exact h1
      · rw [List.drop_eq_nil_of_le h1] at h; cases h
    have ih := risesK_run2 l v t (i + 1) ht hlt
    have hp : prevL l (i + 1) = some k.least := by simp [prevL, hr]
    rw [hp, seen_succ hr] at ih
    by_cases hg : goK (prevL l i) (seen l i) k = true
    · simp only [runL, hg, if_true, risesK_cons, Bool.true_and]
      exact ih
    · have hg : goK (prevL l i) (seen l i) k = false := by simpa using hg
      simp only [runL, hg, risesK_cons, Bool.false_and, Bool.and_false]
      rfl
theorem kids2_eq (n : Nat) (hn : 1003 ≤ n) (r1 : (List Kid) × (List Kid) × Int × Int × Unit → Option Bool) (a b : List Kid) (c d : Int) (l : List Kid) (hl : l.length ≤ 1000) (x : Kid) :
    ref06_kids_l2 n r1 n (a, b, c, d, l, (l.length : Int), 0, x, ()) = if l.any (fun k => decide (k.page = x.page)) then some false else r1 (a, b, c, IntKind.wrap .i64 (d + 1), ()) := by
  show ref06_kids_l2 n r1 n (a, b, c, d, l, (l.length : Int), ((0 : Nat) : Int), x, ()) = _
  unfold ref06_kids_l2
  refine (run_loop l (fun (i : Nat) (_ : Unit) => (a, b, c, d, l, (l.length : Int), (i : Int), x, ())) (fun _ k _ => if decide (k.page = x.page) then .inl (some false) else .inr ()) (fun _ => r1 (a, b, c, IntKind.wrap .i64 (d + 1), ())) (fun r i s y hy hi => ?_) (fun r s => ?_) n 0 () (by omega) (by omega)).trans ?_
  · simp only [lt_dec hi, cond_true, idx_nat, hy, Option.bind_some, wrap_succ (show i < 4611686018427387904 by omega), ibeq]
    by_cases h : y.page = x.page
    · rw [decide_eq_true h]; rfl
    · rw [decide_eq_false h]; rfl
  · simp only [ge_dec (Nat.lt_irrefl _), cond_false]
  · rw [List.drop_zero, runL_any]
theorem rkids_eq (n : Nat) (hn : 1003 ≤ n) (l : List Kid) (hl : l.length ≤ 1000) (hk : ∀ r ∈ l, KeyIn r.least) : ref06_kids n l = some ((decide (1 < l.length) && decide (l.length ≤ 4)) && risesK none [] l) := by
  show ref06_kids_l1 n n (l, l, (l.length : Int), ((0 : Nat) : Int), ()) = _
  unfold ref06_kids_l1
  refine (run_loopI (R := Bool) l (fun (i : Nat) (_ : Unit) => (l, l, (l.length : Int), (i : Int), ())) (fun i k _ => if goK (prevL l i) (seen l i) k then .inr () else .inl (some false)) (fun _ => some (decide (1 < l.length) && decide (l.length ≤ 4)))
    (fun i _ => ∀ j x, i = j + 1 → l[j]? = some x → okTab x.least.table = true) (fun i s x s' hx hi hs => ?_) (fun r i s x hx hi hs => ?_) (fun r s hs => ?_) n 0 () (by omega) (by omega) (fun j x h => by omega)).trans ?_
  · intro j y hj hy
    obtain rfl : i = j := by omega
    rw [hx] at hy
    obtain rfl := Option.some.inj hy
    by_cases hg : goK (prevL l i) (seen l i) x = true
    · unfold goK okKid at hg; simp only [Bool.and_eq_true] at hg; exact hg.1.1.2
    · rw [if_neg hg] at hs; cases hs
  · have hsub : sub l 0 (i : Int) = some (l.take i) := (sub_ok (Nat.zero_le i) (by omega)).trans (by simp)
    have h2 := kids2_eq n hn r l l (l.length : Int) (i : Int) (l.take i) (by simp; omega) x
    simp only [lt_dec hi, cond_true, idx_nat, hx, Option.bind_some, rtable_eq, jn, hsub, h2, wrap_succ (show i < 4611686018427387904 by omega)]
    unfold goK okKid
    rw [mget_seen]
    have e1 : decide (x.page > 0) = !decide (x.page < 1) := by
      by_cases h : x.page < 1
      · rw [decide_eq_true h, decide_eq_false (by omega)]; rfl
      · rw [decide_eq_false h, decide_eq_true (by omega)]; rfl
    have e2 : decide (x.page < 64) = !decide (x.page ≥ 64) := by
      by_cases h : x.page ≥ 64
      · rw [decide_eq_true h, decide_eq_false (by omega)]; rfl
      · rw [decide_eq_false h, decide_eq_true (by omega)]; rfl
    rw [e1, e2]
    by_cases ho : okTab x.least.table = true
    · rw [ho]
      cases i with
      | zero =>
        simp only [prevL, Option.isSome_none, Bool.false_or, Bool.and_true, key0, show (((0 : Nat) : Int) == 0) = true from rfl, cond_true, show decide (((0 : Nat) : Int) > 0) = false from rfl, cond_false]
        cases decide (x.page < 1) <;> cases decide (x.page ≥ 64) <;> cases Key.eqb x.least ⟨0, 0⟩ <;> rfl
      | succ i =>
        have hi' : l[i]? = some l[i] := get_some (by omega)
        obtain ⟨u, v, e3, e4, e5⟩ := order_lt n (hk l[i] (List.getElem_mem _)) (hk x (List.mem_of_getElem? hx)) (hs i _ rfl hi') ho
        have h0 : decide (((i + 1 : Nat) : Int) > 0) = true := decide_eq_true (by omega)
        have h1 : (((i + 1 : Nat) : Int) == 0) = false := by simp; omega
        simp only [Bool.not_true, cond_false, h0, h1, cond_true, wrap_pred (show i < 4611686018427387904 by omega), idx_nat, hi', Option.bind_some, e3, e4, e5, prevL, Option.map_some, Option.isSome_some, Bool.true_or, Bool.and_true]
        cases decide (x.page < 1) <;> cases decide (x.page ≥ 64) <;> cases ltK l[i].least x.least <;> cases (l.take (i + 1)).any (fun k => decide (k.page = x.page)) <;> rfl
    · have ho : okTab x.least.table = false := by simpa using ho
      rw [ho]
      cases decide (x.page < 1) <;> cases decide (x.page ≥ 64) <;> simp
  · simp only [ge_dec (Nat.lt_irrefl _), cond_false, jn]
    by_cases h : 1 < l.length
    · rw [decide_eq_true h, decide_eq_true (by omega)]
      by_cases h' : l.length ≤ 4
      · rw [decide_eq_true h', decide_eq_true (by omega)]; rfl
      · rw [decide_eq_false h', decide_eq_false (by omega)]; rfl
    · rw [decide_eq_false h, decide_eq_false (by omega)]; rfl
  · rw [List.drop_zero, risesK_run2 l _ l 0 rfl (by omega)]
    rfl
end Go.Proofs.Ytjgcapbmhcmcfaa
