/- Escrows: Back and Over, both sides. -/
import Derived.Test.YtfidbgcdjmhjnaaEscF
namespace Go.Proofs.Ytfidbgcdjmhjnaa
open Go.Bur
set_option linter.unusedSimpArgs false
set_option linter.unusedVariables false
set_option maxRecDepth 100000

section
variable {n : Nat} {l A B : List Pending} {y : Option Pending} {k : Key}
/-! ### Back -/
theorem copied_eq (n : Nat) (p : Pending) (h : p.shares.length ≤ 1000) : ref10_copied n p = some (p.key.table, p.key.id, p.value, p.shares) := by
  unfold ref10_copied
  rw [app_lt (by simpa using (by omega : p.shares.length ≤ 1000000)) (by decide)]; rfl
theorem back_eq (hn : 1003 ≤ n) (h : EscOk l) (hi : EscIn l) (hc : Cut (cK k) l A y B) {t d : Int} (hd : I64 d) {A' B' : List Share} {y' : Option Share} (hc' : ∀ p, y = some p → Cut (cT t) p.shares A' y' B') :
    escrow_Back n ⟨l⟩ k t d = some (backNo y y' d, backP A y B A' y' B' d) := by
  have hr := rightE_iff.2 h
  have hl := h.len
  unfold escrow_Back
  rw [withB hn hi (by omega), hr]
  simp only [Bool.not_true, cond_false]
  cases y with
  | none =>
    have e1 : escrow_Back_1 n l k t d = some (4, k, t, d, l) := by
      unfold escrow_Back_1
      simp only [psearch hn hc (show l.length ≤ 1000 by omega), Option.bind_some, Option.isSome_none, Bool.not_false, cond_true]
    rw [e1]; rfl
  | some p =>
    have hp : p ∈ l := by rw [hc.eq]; simp
    obtain ⟨p1, p2, p3⟩ := hi p hp
    cases y' with
    | none =>
      have e1 : ∃ l', escrow_Back_1 n l k t d = some (4, k, t, d, l') := by
        unfold escrow_Back_1
        have ix : idx l (A.length : Int) = some p := cut_idx hc
        simp only [psearch hn hc (show l.length ≤ 1000 by omega), Option.bind_some, Option.isSome_some, Bool.not_true, cond_false, ix, sameI_self, ssearch hn (hc' p rfl) (show p.shares.length ≤ 1000 by omega), Option.isSome_none, Bool.not_false, cond_true]
        exact ⟨_, rfl⟩
      obtain ⟨l', e1⟩ := e1
      rw [e1]; rfl
    | some s =>
      obtain ⟨l', g1, g2⟩ := back_core (n := n) hn (p1.2 s (by rw [(hc' p rfl).eq]; simp)) hd hc (hc' p rfl) (by omega) (by omega)
      rw [g1]
      simp only [Option.bind_some, ibne]
      unfold backNo backP
      simp only
      by_cases h0 : backErr s d = 0
      · rw [decide_eq_true h0, if_pos h0, h0, g2 h0]; rfl
      · rw [decide_eq_false h0, if_neg h0]; rfl
theorem back_bad (hn : 1003 ≤ n) (hi : EscIn l) (hl : l.length ≤ 61) (h : rightE l = false) (t d : Int) : escrow_Back n ⟨l⟩ k t d = some (200, []) := by
  unfold escrow_Back
  rw [withB hn hi hl, h]; rfl
theorem rback_eq (hn : 1003 ≤ n) (h : EscOk l) (hi : EscIn l) (hc : Cut (cK k) l A y B) {t d : Int} (hd : I64 d) {A' B' : List Share} {y' : Option Share} (hc' : ∀ p, y = some p → Cut (cT t) p.shares A' y' B') :
    ref10_Back n ⟨l⟩ k t d = some (⟨backP A y B A' y' B' d⟩, backNo y y' d) := by
  have hl := h.len
  unfold ref10_Back
  rw [rfindE hn l (by omega), cut_find hc]
  cases y with
  | none => rfl
  | some p =>
    have hp : p ∈ l := by rw [hc.eq]; simp
    obtain ⟨p1, p2, p3⟩ := hi p hp
    have hcs := hc' p rfl
    have hpk : p.key = k := cmpK_zero.1 (hc.mid p rfl)
    simp only [Option.bind_some, Bool.not_true, cond_false, copied_eq n p (by omega)]
    obtain ⟨G, hG⟩ : ∃ G : Nat → Share → Option (Escrow × Int), ∀ i x, G i x = (if backErr x d = 0 then (put p.shares (i : Int) (Share.mk x.txn (x.sum - d) x.hi x.lo)).bind fun l27 => (ref10_put n ⟨l⟩ (Pending.mk (Key.mk p.key.table p.key.id) p.value l27)).bind fun y28 => some (y28, 0) else some (⟨[]⟩, 2)) := ⟨_, fun _ _ => rfl⟩
    show ref10_Back_l1 n n (t, d, (p.shares.length : Int), ((0 : Nat) : Int), ⟨l⟩, ⟨[]⟩, p.key.table, p.key.id, p.value, p.shares, ()) = _
    unfold ref10_Back_l1
    refine (run_loop p.shares (fun (i : Nat) (_ : Unit) => (t, d, (p.shares.length : Int), (i : Int), Escrow.mk l, Escrow.mk [], p.key.table, p.key.id, p.value, p.shares, ())) (fun i x _ => if cT t x = 0 then .inl (G i x) else .inr ()) (fun _ => some (⟨[]⟩, 4)) (fun r i s x hx hi => ?_) (fun r s => ?_) n 0 () (Nat.zero_le _) (by omega)).trans ?_
    · have g2 : (x.txn != t) = !decide (cT t x = 0) := by
        rw [ibne]; congr 1; exact decide_eq_decide.2 (by unfold cT; exact cmpI_zero.symm)
      obtain ⟨s1, s2, s3⟩ := p1.2 x (List.mem_of_getElem? hx)
      have hx1 : ref10_Of n (xorV .i64 (-1) d) = some (bigOf (-1 - d)) := by rw [xor_m1 hd, bof_eq]
      simp only [lt_dec hi, cond_true, idx_nat, hx, Option.bind_some, g2, wrap_succ (show i < 4611686018427387904 by omega)]
      by_cases h5 : cT t x = 0
      · rw [decide_eq_true h5, if_pos h5]
        rw [bof_eq n x.sum, hx1, bof_eq n 1, Bool.not_true, cond_false, Option.bind_some, Option.bind_some, bplus_eq n (by omega) (by omega), Option.bind_some, Option.bind_some, bplus_eq n (by omega) (by omega), Option.bind_some, show x.sum + (-1 - d) + 1 = x.sum - d from by omega, rsmall_eq n _ (by omega), Option.bind_some]
        show _ = G i x
        rw [hG]
        unfold backErr
        simp only [jn_or]
        cases hf : fits (x.sum - d) with
        | false => simp
        | true =>
          simp only [if_true, Bool.not_true, Bool.false_or]
          cases decide (x.sum - d < x.lo) <;> cases decide (x.sum - d > x.hi) <;> simp
      · rw [decide_eq_false h5, if_neg h5]; rfl
    · simp only [ge_dec (Nat.lt_irrefl _), cond_false]
    · rw [List.drop_zero, first_cut hcs]
      cases y' with
      | none => rfl
      | some s =>
        unfold backNo backP
        simp only [Option.elim, hG]
        by_cases h0 : backErr s d = 0
        · rw [if_pos h0, if_pos h0, h0]
          have e : p.shares = A' ++ s :: B' := hcs.eq
          rw [e, put_app]
          have hb : Pending.mk (Key.mk p.key.table p.key.id) p.value (A' ++ Share.mk s.txn (s.sum - d) s.hi s.lo :: B') = backTo p A' B' s d := rfl
          simp only [Option.bind_some, hb]
          have hkk := escOk_key h hi p hp
          rw [hpk] at hkk
          rw [put_eqE hn hc hl (escOk_key h hi) (p := backTo p A' B' s d) hpk hkk, if_neg (show ¬ (backTo p A' B' s d).shares.length = 0 by simp [backTo])]
          rfl
        · rw [if_neg h0, if_neg h0]
          unfold backErr at h0 ⊢
          split
          · rfl
          · rename_i h1; rw [if_neg h1] at h0; exact absurd rfl h0

/-! ### Over -/
def ofT (t : Int) (p : Pending) : Option Share := p.shares.find? fun s => decide (cT t s = 0)
def sumO : Option Share → Int
  | some s => s.sum
  | none => 0
def loO : Option Share → Int
  | some s => s.lo
  | none => 0
def hiO : Option Share → Int
  | some s => s.hi
  | none => 0
def overP (t : Int) (c : Bool) (p : Pending) : Pending := ⟨p.key, p.value + (if c then sumO (ofT t p) else 0), p.shares.filter fun s => !decide (cT t s = 0)⟩
def noShares (p : Pending) : Bool := decide (p.shares.length = 0)
def overL (t : Int) (c : Bool) (l : List Pending) : List Pending := (l.map (overP t c)).filter fun p => !noShares p
theorem shareOk_le {s : Share} (h : shareOk s = true) : s.lo ≤ 0 ∧ s.lo ≤ s.sum ∧ s.sum ≤ s.hi ∧ 0 ≤ s.hi := by
  unfold shareOk at h
  rw [Bool.and_eq_true, decide_eq_true_iff] at h
  exact h.2
theorem sumLo_le : ∀ {l : List Share}, (∀ s ∈ l, shareOk s = true) → (l.map (·.lo)).sum ≤ 0 ∧ 0 ≤ (l.map (·.hi)).sum
  | [], _ => by simp
  | x :: l, h => by
    have h1 := shareOk_le (h x (List.mem_cons_self ..))
    have h2 := sumLo_le fun s hs => h s (List.mem_cons_of_mem _ hs)
    simp only [List.map_cons, List.sum_cons]
    omega
theorem sumMid_le : ∀ {l : List Share}, (∀ s ∈ l, shareOk s = true) → (l.map (·.lo)).sum ≤ (l.map (·.sum)).sum ∧ (l.map (·.sum)).sum ≤ (l.map (·.hi)).sum
  | [], _ => by simp
  | x :: l, h => by
    have h1 := shareOk_le (h x (List.mem_cons_self ..))
    have h2 := sumMid_le fun s hs => h s (List.mem_cons_of_mem _ hs)
    simp only [List.map_cons, List.sum_cons]
    omega
theorem ltT_tr (a b c : Share) (h : ltT a b = true) (k : ltT b c = true) : ltT a c = true := by
  unfold ltT at *; rw [decide_eq_true_iff] at *; omega
structure PendOk (p : Pending) : Prop where
  key : keyB p.key = true
  len1 : 1 ≤ p.shares.length
  len8 : p.shares.length ≤ 8
  each : ∀ s ∈ p.shares, shareOk s = true
  ord : p.shares.Pairwise (fun a b => ltT a b = true)
  low : I64 (lowZ p)
  high : I64 (highZ p)
theorem rightP_iff {p : Pending} : rightP p = true ↔ PendOk p := by
  unfold rightP
  simp only [Bool.and_eq_true, decide_eq_true_iff, chain_iff ltT_tr, fits]
  constructor
  · rintro ⟨⟨⟨⟨h1, h2, h3⟩, h4, h5, _⟩, h6⟩, h7⟩; exact ⟨h1, h2, h3, h4, h5, h6, h7⟩
  · rintro ⟨h1, h2, h3, h4, h5, h6, h7⟩; exact ⟨⟨⟨⟨h1, h2, h3⟩, h4, h5, fun y hy => by cases hy⟩, h6⟩, h7⟩
section
variable {p : Pending} {t : Int} {c : Bool} {A' B' : List Share} {y' : Option Share}
theorem overP_cut (hc : Cut (cT t) p.shares A' y' B') : overP t c p = ⟨p.key, p.value + (if c then sumO y' else 0), A' ++ B'⟩ := by
  unfold overP ofT
  rw [cut_find? hc, cut_filter hc]
theorem overP_none (hc : Cut (cT t) p.shares A' none B') : overP t c p = p := by
  rw [overP_cut hc]
  have e : p.shares = A' ++ B' := hc.eq
  obtain ⟨k, v, l⟩ := p
  simp only at e
  subst e
  cases c <;> simp [sumO]
theorem sums_cut (hc : Cut (cT t) p.shares A' y' B') : lowZ p = p.value + ((A'.map (·.lo)).sum + (loO y' + (B'.map (·.lo)).sum)) ∧ highZ p = p.value + ((A'.map (·.hi)).sum + (hiO y' + (B'.map (·.hi)).sum)) ∧ midZ p = p.value + ((A'.map (·.sum)).sum + (sumO y' + (B'.map (·.sum)).sum)) := by
  unfold lowZ highZ midZ
  rw [hc.eq]
  cases y' <;> simp [sumO, loO, hiO]
theorem over_val (hp : PendOk p) {s : Share} (hc : Cut (cT t) p.shares A' (some s) B') : I64 (p.value + s.sum) := by
  obtain ⟨h1, h2, _⟩ := sums_cut hc
  have hs := shareOk_le (hp.each s (by rw [hc.eq]; simp))
  have hA := sumLo_le (l := A') fun x hx => hp.each x (by rw [hc.eq]; simp [hx])
  have hB := sumLo_le (l := B') fun x hx => hp.each x (by rw [hc.eq]; simp [hx])
  have := hp.low
  have := hp.high
  simp only [loO, hiO] at h1 h2
  unfold I64 at *
  omega
theorem over_step (hn : 1003 ≤ n) (hp : PendOk p) (hc : Cut (cT t) p.shares A' y' B') {R : Type} {j : Pending → Option R} :
    ((slices_BinarySearchFunc_int_f65 n p.shares t).bind fun y14 =>
      cond (!y14.2)
        (j p)
        (cond c
          ((idx p.shares y14.1).bind fun x15 =>
          (idx p.shares y14.1).bind fun x16 =>
          (slices_Delete_Share n y14.1 (IntKind.wrap .i64 (y14.1 + 1)) p.shares).bind fun y17 =>
          j (Pending.mk p.key (IntKind.wrap .i64 (p.value + x16.sum)) y17))
          ((slices_Delete_Share n y14.1 (IntKind.wrap .i64 (y14.1 + 1)) p.shares).bind fun y18 =>
          j (Pending.mk p.key p.value y18)))) = j (overP t c p) := by
  have h8 := hp.len8
  rw [ssearch hn hc (by omega)]
  simp only [Option.bind_some]
  cases y' with
  | none => rw [overP_none hc]; rfl
  | some s =>
    have hlen := cut_len hc
    have ix : idx p.shares (A'.length : Int) = some s := cut_idx hc
    have hd : slices_Delete_Share n (A'.length : Int) (IntKind.wrap .i64 ((A'.length : Int) + 1)) p.shares = some (A' ++ B') := by
      rw [wrap_succ (show A'.length < 4611686018427387904 by omega)]
      exact delL_cut hc
    rw [overP_cut hc]
    simp only [Option.isSome_some, Bool.not_true, cond_false, ix, Option.bind_some, hd]
    cases c with
    | true => simp only [cond_true, if_true, wrap_in (over_val hp hc), sumO]
    | false => simp
end
theorem delE_eq (hn : 1003 ≤ n) (l : List Pending) (hl : l.length ≤ 1000) : slices_DeleteFunc_Pending_f68 n l = some (l.filter fun p => !noShares p) := by
  have h1 : slices_IndexFunc_Pending_f68 n l = some (match l.findIdx? noShares with | some j => (j : Int) | none => -1) := by
    show slices_IndexFunc_Pending_f68_l1 n n (l, (l.length : Int), ((0 : Nat) : Int), ()) = _
    unfold slices_IndexFunc_Pending_f68_l1
    refine (run_loop l (fun (i : Nat) (_ : Unit) => (l, (l.length : Int), (i : Int), ())) (fun i x _ => if noShares x then .inl (some (i : Int)) else .inr ()) (fun _ => some (-1)) (fun r i q x hx hi => ?_) (fun r q => ?_) n 0 () (by omega) (by omega)).trans ?_
    · have e0 : ((x.shares.length : Int) == 0) = noShares x := ieqN (m := 0)
      simp only [lt_dec hi, cond_true, idx_nat, hx, Option.bind_some, escrow_Over_1_1, e0, wrap_succ (show i < 4611686018427387904 by omega)]
      cases noShares x <;> rfl
    · simp only [ge_dec (Nat.lt_irrefl _), cond_false]
    · rw [List.drop_zero, runL_find0]
      cases l.findIdx? noShares with
      | none => rfl
      | some j => simp
  unfold slices_DeleteFunc_Pending_f68
  simp only [h1, Option.bind_some]
  refine delF_eq (p := noShares) (fun x _ => ?_) (by omega)
  unfold escrow_Over_1_1
  exact congrArg some (ieqN (m := 0))
theorem over1_eq (hn : 1003 ≤ n) (h : EscOk l) (t : Int) (c : Bool) : escrow_Over_1 n l t c = some (if txnB t then (0, t, c, overL t c l) else (2, t, c, l)) := by
  have hl := h.len
  unfold escrow_Over_1
  rw [txn_eq]
  simp only [Option.bind_some]
  cases txnB t with
  | false => rfl
  | true =>
    simp only [Bool.not_true, cond_false, if_true]
    have e0 : escrow_Over_1_l1 n n ((l.length : Int), 0, t, c, l, ()) = escrow_Over_1_l1 n n ((l.length : Int), ((0 : Nat) : Int), t, c, upTo (overP t c) l 0, ()) := by rw [upTo_zero]; rfl
    rw [e0]
    unfold escrow_Over_1_l1
    refine (run_loop l (fun (i : Nat) (_ : Unit) => ((l.length : Int), (i : Int), t, c, upTo (overP t c) l i, ())) (fun _ _ _ => .inr ()) (fun _ => some (0, t, c, overL t c l)) (fun r i s x hx hi => ?_) (fun r s => ?_) n 0 () (Nat.zero_le _) (by omega)).trans ?_
    · obtain ⟨hi', rfl⟩ := List.getElem?_eq_some_iff.1 hx
      have hr := h.each l[i] (List.getElem_mem _)
      obtain ⟨A', y', B', hc'⟩ := cutT t (rightP_chain hr)
      have := over_step (n := n) (c := c) hn (rightP_iff.1 hr) hc' (j := fun p => r ((l.length : Int), ((i + 1 : Nat) : Int), t, c, (upTo (overP t c) l i).set i p, ()))
      simp only [upTo_set hi] at this
      simp only [lt_dec hi, cond_true, idx_nat, upTo_get hi, Option.bind_some, jn, escrow_Over_1_j2, sameI_self, Int.toNat_natCast, wrap_succ (show i < 4611686018427387904 by omega)]
      exact this
    · simp only [ge_dec (Nat.lt_irrefl _), cond_false, upTo_all]
      rw [delE_eq hn _ (by simp; omega)]
      rfl
    · rw [List.drop_zero, runL_skip]
theorem over_eqE (hn : 1003 ≤ n) (h : EscOk l) (hi : EscIn l) (t : Int) (c : Bool) : escrow_Over n ⟨l⟩ t c = some (if txnB t then (0, overL t c l) else (2, [])) := by
  have hr := rightE_iff.2 h
  have hl := h.len
  unfold escrow_Over
  rw [withO hn hi (by omega), hr]
  simp only [Bool.not_true, cond_false, over1_eq hn h, Option.bind_some]
  cases txnB t <;> rfl
theorem over_bad (hn : 1003 ≤ n) (hi : EscIn l) (hl : l.length ≤ 61) (h : rightE l = false) (t : Int) (c : Bool) : escrow_Over n ⟨l⟩ t c = some (200, []) := by
  unfold escrow_Over
  rw [withO hn hi hl, h]; rfl
/-! ### The document's Over -/
def smallZ (z : Int) : Int := if fits z then z else 0
theorem rover_in (hn : 1003 ≤ n) {p : Pending} {t : Int} {c : Bool} {A' B' : List Share} {y' : Option Share} (hp : PendOk p) (hin : PendIn p) (hc : Cut (cT t) p.shares A' y' B') (r1 : Int × Bool × (List Pending) × Int × Int × Escrow × Escrow × Unit → Option (Escrow × Int)) (rows : List Pending) (a i0 : Int) (o0 out : Escrow) :
    ref10_Over_l2 n r1 n (t, c, rows, a, i0, p.shares, (p.shares.length : Int), 0, o0, out, p, [], ()) = (ref10_put n out (overP t c p)).bind fun y53 => r1 (t, c, rows, a, IntKind.wrap .i64 (i0 + 1), o0, y53, ()) := by
  have h8 := hp.len8
  show ref10_Over_l2 n r1 n (t, c, rows, a, i0, p.shares, (p.shares.length : Int), ((0 : Nat) : Int), o0, out, p, [], ()) = _
  unfold ref10_Over_l2
  let g : Share → Int × List Share → Int × List Share := fun x s => if cT t x = 0 then (if c then smallZ (s.1 + x.sum) else s.1, s.2) else (s.1, s.2 ++ [x])
  have hfold : p.shares.foldl (fun s x => g x s) (p.value, []) = ((overP t c p).value, (overP t c p).shares) := by
    rw [overP_cut hc, hc.eq, List.foldl_append, List.foldl_append]
    have lo : ∀ (L : List Share) (v : Int) (acc : List Share), (∀ x ∈ L, cT t x ≠ 0) → L.foldl (fun s x => g x s) (v, acc) = (v, acc ++ L) := by
      intro L
      induction L with
      | nil => intro v acc _; simp
      | cons x L ih =>
        intro v acc hx
        rw [List.foldl_cons, show g x (v, acc) = (v, acc ++ [x]) from if_neg (hx x (List.mem_cons_self ..)), ih _ _ fun z hz => hx z (List.mem_cons_of_mem _ hz)]
        simp
    rw [lo A' _ _ fun x hx => by have := hc.lo x hx; omega]
    cases y' with
    | none =>
      simp only [Option.toList_none, List.foldl_nil]
      rw [lo B' _ _ fun x hx => by have := hc.hi x hx; omega]
      cases c <;> simp [sumO]
    | some s =>
      simp only [Option.toList_some, List.foldl_cons, List.foldl_nil]
      rw [show g s (p.value, [] ++ A') = (if c then smallZ (p.value + s.sum) else p.value, [] ++ A') from if_pos (hc.mid s rfl)]
      rw [lo B' _ _ fun x hx => by have := hc.hi x hx; omega]
      have hv := over_val hp hc
      cases c with
      | false => simp
      | true =>
        have : smallZ (p.value + s.sum) = p.value + s.sum := by unfold smallZ fits; rw [decide_eq_true hv]; rfl
        simp [this, sumO]
  refine (run_loopI p.shares (fun (i : Nat) (s : Int × List Share) => (t, c, rows, a, i0, p.shares, (p.shares.length : Int), (i : Int), o0, out, Pending.mk p.key s.1 p.shares, s.2, ())) (fun _ x s => .inr (g x s)) (fun s => (ref10_put n out (Pending.mk p.key s.1 s.2)).bind fun y53 => r1 (t, c, rows, a, IntKind.wrap .i64 (i0 + 1), o0, y53, ())) (fun i s => s.2.length ≤ i ∧ I64 s.1) (fun i s x s' hx hi hs => ?_) (fun r i s x hx hi hs => ?_) (fun r s hs => ?_) n 0 (p.value, []) (Nat.zero_le _) (by omega) ⟨by simp, hin.1⟩).trans ?_
  · injection hs with hs
    subst hs
    simp only [g]
    split
    · refine ⟨by simp only; omega, ?_⟩
      simp only
      split
      · unfold smallZ; split
        · rename_i hf; exact fits_i64 hf
        · exact ⟨by decide, by decide⟩
      · exact hi.2
    · exact ⟨by simp; omega, hi.2⟩
  · obtain ⟨v, acc⟩ := s
    simp only at hs
    have a2 : app 32 acc [x] = some (acc ++ [x]) := app_lt (by simp; omega) (by decide)
    have g2 : (x.txn != t) = !decide (cT t x = 0) := by
      rw [ibne]; congr 1; exact decide_eq_decide.2 (by unfold cT; exact cmpI_zero.symm)
    obtain ⟨s1, s2, s3⟩ := hin.2 x (List.mem_of_getElem? hx)
    have hv := hs.2
    simp only [lt_dec hi, cond_true, idx_nat, hx, Option.bind_some, jn, ref10_Over_j3, ref10_Over_j4, wrap_succ (show i < 4611686018427387904 by omega), g2, a2, g, bof_eq]
    rw [bplus_eq n (by omega) (by omega)]
    simp only [Option.bind_some]
    rw [rsmall_eq n _ (by omega)]
    simp only [Option.bind_some]
    by_cases h5 : cT t x = 0
    · rw [decide_eq_true h5, if_pos h5]
      cases c <;> rfl
    · rw [decide_eq_false h5, if_neg h5]; rfl
  · simp only [ge_dec (Nat.lt_irrefl _), cond_false]
  · rw [List.drop_zero, runL_fold, hfold]
    rfl
theorem rover_eq (hn : 1003 ≤ n) (h : EscOk l) (hi : EscIn l) (t : Int) (c : Bool) : ref10_Over n ⟨l⟩ t c = some (if txnB t then (⟨overL t c l⟩, 0) else (⟨[]⟩, 2)) := by
  have hl := h.len
  unfold ref10_Over
  rw [jn_or]
  have e0 : ((decide (t < 1)) || (decide (t > 1073741824))) = !txnB t := by
    unfold txnB
    rw [Bool.eq_iff_iff]; simp only [Bool.or_eq_true, Bool.not_eq_true', decide_eq_true_iff, decide_eq_false_iff_not]; omega
  rw [e0]
  cases txnB t with
  | false => rfl
  | true =>
    simp only [Bool.not_true, cond_false, if_true]
    have st : ∀ i, ((l.take i).map (overP t c)).filter (fun p => !noShares p) ++ l.drop i = ((l.take i).map (overP t c)).filter (fun p => !noShares p) ++ l.drop i := fun _ => rfl
    have e1 : ref10_Over_l1 n n (t, c, l, (l.length : Int), 0, Escrow.mk [], ⟨l⟩, ()) = ref10_Over_l1 n n (t, c, l, (l.length : Int), ((0 : Nat) : Int), Escrow.mk [], ⟨((l.take 0).map (overP t c)).filter (fun p => !noShares p) ++ l.drop 0⟩, ()) := by simp
    rw [e1]
    unfold ref10_Over_l1
    refine (run_loop l (fun (i : Nat) (_ : Unit) => (t, c, l, (l.length : Int), (i : Int), Escrow.mk [], Escrow.mk (((l.take i).map (overP t c)).filter (fun p => !noShares p) ++ l.drop i), ())) (fun _ _ _ => .inr ()) (fun _ => some (⟨overL t c l⟩, 0)) (fun r i s x hx hi' => ?_) (fun r s => ?_) n 0 () (Nat.zero_le _) (by omega)).trans ?_
    · obtain ⟨hi'', rfl⟩ := List.getElem?_eq_some_iff.1 hx
      have hm : l[i] ∈ l := List.getElem_mem _
      have hr := h.each l[i] hm
      obtain ⟨A', y', B', hc'⟩ := cutT t (rightP_chain hr)
      obtain ⟨p1, p2, p3⟩ := hi l[i] hm
      have hsub : ∀ x ∈ ((l.take i).map (overP t c)).filter (fun p => !noShares p), ∃ z ∈ l.take i, x.key = z.key := fun x hx => by
        obtain ⟨h1, _⟩ := List.mem_filter.1 hx
        obtain ⟨z, hz, rfl⟩ := List.mem_map.1 h1
        exact ⟨z, hz, rfl⟩
      have hsplit : l = l.take i ++ l[i] :: l.drop (i + 1) := by rw [← drop_cons hi', List.take_append_drop]
      have hord := h.ord
      rw [hsplit, List.pairwise_append] at hord
      obtain ⟨o1, o2, o3⟩ := hord
      rw [List.pairwise_cons] at o2
      have hcut : Cut (cK l[i].key) (((l.take i).map (overP t c)).filter (fun p => !noShares p) ++ l.drop i) (((l.take i).map (overP t c)).filter (fun p => !noShares p)) (some l[i]) (l.drop (i + 1)) := by
        refine ⟨by rw [drop_cons hi']; rfl, fun x hx => ?_, fun x hx => by cases hx; exact cmpK_zero.2 rfl, fun x hx => ?_⟩
        · obtain ⟨z, hz, e⟩ := hsub x hx
          have := o3 z hz l[i] (List.mem_cons_self ..)
          unfold ltK at this
          rw [decide_eq_true_iff] at this
          unfold cK; rw [e]; exact this
        · have := o2.1 x hx
          unfold ltK at this
          rw [decide_eq_true_iff] at this
          have h9 := cmpK_neg (a := x.key) (b := l[i].key)
          unfold cK; omega
      have hlen : (((l.take i).map (overP t c)).filter (fun p => !noShares p) ++ l.drop i).length ≤ 60 := by
        have := List.length_filter_le (fun p => !noShares p) ((l.take i).map (overP t c))
        simp at this ⊢; omega
      have hput := put_eqE (n := n) hn hcut hlen (fun x hx => by
        rcases List.mem_append.1 hx with hx | hx
        · obtain ⟨z, hz, e⟩ := hsub x hx
          rw [e]; exact escOk_key h hi z (List.mem_of_mem_take hz)
        · exact escOk_key h hi x (List.mem_of_mem_drop hx)) (p := overP t c l[i]) rfl (escOk_key h hi _ hm)
      simp only [lt_dec hi', cond_true, idx_nat, get_some hi', Option.bind_some]
      rw [rover_in hn (rightP_iff.1 hr) p1 hc', hput]
      simp only [Option.bind_some, wrap_succ (show i < 4611686018427387904 by omega)]
      congr 6
      rw [List.take_succ_eq_append_getElem hi', List.map_append, List.filter_append]
      simp only [List.map_cons, List.map_nil, List.filter_cons, List.filter_nil, noShares]
      by_cases h0 : (overP t c l[i]).shares.length = 0
      · simp [h0]
      · simp [h0]
    · simp only [ge_dec (Nat.lt_irrefl _), cond_false]
      congr 2
      simp [overL]
    · rw [List.drop_zero, runL_skip]
end
end Go.Proofs.Ytfidbgcdjmhjnaa
