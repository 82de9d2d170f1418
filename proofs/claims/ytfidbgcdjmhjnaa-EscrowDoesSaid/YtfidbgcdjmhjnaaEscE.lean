/- Escrows: Add, Back and Over, and what the document says of them. -/
import Derived.Test.YtfidbgcdjmhjnaaEscD
namespace Go.Proofs.Ytfidbgcdjmhjnaa
open Go.Bur
set_option linter.unusedSimpArgs false
set_option linter.unusedVariables false
set_option maxRecDepth 100000

/-! ### Rows of an escrow -/
abbrev cK (k : Key) : Pending → Int := fun p => cmpK p.key k
theorem ltK_tr (a b c : Pending) (h : ltK a b = true) (k : ltK b c = true) : ltK a c = true := by
  unfold ltK at *; rw [decide_eq_true_iff] at *; exact cmpK_ltt h k
theorem cutK {l : List Pending} (k : Key) (h : l.Pairwise (fun a b => ltK a b = true)) : ∃ A y B, Cut (cK k) l A y B := by
  refine cut_ex (h.imp fun {a b} hab ha => ?_)
  unfold ltK at hab
  rw [decide_eq_true_iff] at hab
  unfold cK at *
  have h1 := cmpK_neg (a := b.key) (b := k)
  have h2 := cmpK_neg (a := a.key) (b := k)
  have := cmpK_trans (a := k) (b := a.key) (c := b.key) (by omega) (by omega)
  by_cases h0 : cmpK b.key k = 0
  · have hk := cmpK_zero.1 h0
    rw [hk] at hab
    omega
  · by_cases h3 : cmpK b.key k < 0
    · exact absurd (cmpK_ltt hab h3) (by omega)
    · omega
structure EscOk (l : List Pending) : Prop where
  len : l.length ≤ 60
  each : ∀ p ∈ l, rightP p = true
  ord : l.Pairwise (fun a b => ltK a b = true)
theorem rightE_iff {l : List Pending} : rightE l = true ↔ EscOk l := by
  unfold rightE
  rw [Bool.and_eq_true, decide_eq_true_iff, chain_iff ltK_tr]
  constructor
  · rintro ⟨h1, h2, h3, _⟩; exact ⟨h1, h2, h3⟩
  · rintro ⟨h1, h2, h3⟩; exact ⟨h1, h2, h3, fun y hy => by cases hy⟩
section
variable {n : Nat} {l A B : List Pending} {y : Option Pending} {k : Key}
theorem psearch (hn : 1003 ≤ n) (h : Cut (cK k) l A y B) (hl : l.length ≤ 1000) :
    slices_BinarySearchFunc_Key_f41 n l k = some ((A.length : Int), y.isSome) := by
  have hlen := cut_len h
  show slices_BinarySearchFunc_Key_f41_l1 n n (l, (l.length : Int), ((0 : Nat) : Int), (l.length : Int), k, ()) = _
  unfold slices_BinarySearchFunc_Key_f41_l1
  refine bsearch (fun (i j : Nat) => (l, (l.length : Int), (i : Int), (j : Int), k, ())) A.length l.length _ (fun r i j hij hj hA => ?_) (fun r i j hij hj hA => ?_) (fun r => ?_) n 0 l.length (Nat.zero_le _) (by omega) (Nat.le_refl _) (by omega)
  · have e : ((i : Int) + (j : Int)) = ((i + j : Nat) : Int) := by omega
    obtain ⟨e1, e2⟩ := half_eq (x := i + j) (by omega)
    have := cut_lt h (show (i + j) / 2 < l.length by omega) hA
    simp only [lt_dec hij, cond_true, e, e1, Option.bind_some, e2, idx_nat, get_some (show (i + j) / 2 < l.length by omega), byKey_eq n (show 3 ≤ n by omega), jn, slices_BinarySearchFunc_Key_f41_j2, decide_eq_true this, wrap_succ (show (i + j) / 2 < 4611686018427387904 by omega)]
  · have e : ((i : Int) + (j : Int)) = ((i + j : Nat) : Int) := by omega
    obtain ⟨e1, e2⟩ := half_eq (x := i + j) (by omega)
    have := cut_ge h (show (i + j) / 2 < l.length by omega) hA
    simp only [lt_dec hij, cond_true, e, e1, Option.bind_some, e2, idx_nat, get_some (show (i + j) / 2 < l.length by omega), byKey_eq n (show 3 ≤ n by omega), jn, slices_BinarySearchFunc_Key_f41_j2, decide_eq_false this, cond_false]
  · simp only [ge_dec (Nat.lt_irrefl _), cond_false, jn]
    by_cases hA : A.length < l.length
    · simp only [lt_dec hA, cond_true, idx_nat, get_some hA, Option.bind_some, byKey_eq n (show 3 ≤ n by omega), cut_at h hA]
    · rw [ge_dec hA, cut_end h hA]; rfl
theorem cK_eq {p : Pending} : decide (cK k p = 0) = Key.eqb p.key k := by
  rw [key_eqb]; exact decide_eq_decide.2 cmpK_zero
theorem put_eqE (hn : 1003 ≤ n) (h : Cut (cK k) l A y B) (hl : l.length ≤ 60) (hr : ∀ x ∈ l, keyB x.key = true ∧ KeyIn x.key) {p : Pending} (hp : p.key = k) (hk : keyB k = true ∧ KeyIn k) :
    ref10_put n ⟨l⟩ p = some ⟨if p.shares.length = 0 then A ++ B else A ++ p :: B⟩ := by
  subst hp
  unfold ref10_put
  have e0 : ((p.shares.length : Int) == 0) = decide (p.shares.length = 0) := ieqN (m := 0)
  rw [e0]
  show ref10_put_l1 n n (decide (p.shares.length = 0), l, (l.length : Int), ((0 : Nat) : Int), p, Escrow.mk [], [], ()) = _
  unfold ref10_put_l1
  refine (run_loopI l (fun (i : Nat) (s : Bool × List Pending) => (s.1, l, (l.length : Int), (i : Int), p, Escrow.mk [], s.2, ())) (fun _ x s => .inr (layS (cK p.key) p x s)) (fun s => some ⟨layE p s⟩) (fun i s => s.2.length ≤ 2 * i) (fun i s x s' hx hi hs => ?_) (fun r i s x hx hi hs => ?_) (fun r s hs => ?_) n 0 (decide (p.shares.length = 0), []) (Nat.zero_le _) (by omega) (by simp)).trans ?_
  · injection hs with hs
    subst hs
    have := layS_len (c := cK p.key) (o := p) (x := x) (s := s)
    omega
  · obtain ⟨bb, acc⟩ := s
    simp only at hs
    obtain ⟨k1, k2⟩ := hr x (List.mem_of_getElem? hx)
    have a1 : app 48 acc [p] = some (acc ++ [p]) := app_lt (by simp; omega) (by decide)
    have a2 : app 48 acc [x] = some (acc ++ [x]) := app_lt (by simp; omega) (by decide)
    have a3 : app 48 (acc ++ [p]) [x] = some (acc ++ [p] ++ [x]) := app_lt (by simp; omega) (by decide)
    simp only [lt_dec hi, cond_true, idx_nat, hx, Option.bind_some, jn, ref10_put_j2, ref10_put_j3, wrap_succ (show i < 4611686018427387904 by omega), order_eq n k1 hk.1 k2 hk.2, ← cK_eq, a1, a2, a3, layS]
    have e : cmpK x.key p.key = cK p.key x := rfl
    rw [e]
    cases bb <;> by_cases h5 : cK p.key x = 0 <;> by_cases h6 : cK p.key x ≥ 0 <;> simp [h5, h6]
  · obtain ⟨bb, acc⟩ := s
    simp only at hs
    have a1 : app 48 acc [p] = some (acc ++ [p]) := app_lt (by simp; omega) (by decide)
    simp only [ge_dec (Nat.lt_irrefl _), cond_false, jn, a1, Option.bind_some, ref10_put_j4, layE]
    cases bb <;> rfl
  · rw [List.drop_zero, runL_fold]
    congr 2
    by_cases h0 : p.shares.length = 0
    · rw [decide_eq_true h0, if_pos h0]
      exact lay_out h
    · rw [decide_eq_false h0, if_neg h0]
      exact lay_in h
theorem findE (hn : 1003 ≤ n) (l : List Pending) (hl : l.length ≤ 1000) (k : Key) : escrow_Find n ⟨l⟩ k = some (match l.find? (fun p => Key.eqb p.key k) with | some p => (p, true) | none => (⟨⟨0, 0⟩, 0, []⟩, false)) := by
  have h1 : slices_IndexFunc_Pending_f46 n l k = some (match l.findIdx? (fun p => Key.eqb p.key k) with | some j => (j : Int) | none => -1) := by
    show slices_IndexFunc_Pending_f46_l1 n n (l, k, (l.length : Int), ((0 : Nat) : Int), ()) = _
    unfold slices_IndexFunc_Pending_f46_l1
    refine (run_loop l (fun (i : Nat) (_ : Unit) => (l, k, (l.length : Int), (i : Int), ())) (fun i x _ => if Key.eqb x.key k then .inl (some (i : Int)) else .inr ()) (fun _ => some (-1)) (fun r i q x hx hi => ?_) (fun r q => ?_) n 0 () (by omega) (by omega)).trans ?_
    · simp only [lt_dec hi, cond_true, idx_nat, hx, Option.bind_some, escrow_Find_1, wrap_succ (show i < 4611686018427387904 by omega)]
      cases Key.eqb x.key k <;> rfl
    · simp only [ge_dec (Nat.lt_irrefl _), cond_false]
    · rw [List.drop_zero, runL_find0]
      cases l.findIdx? (fun p => Key.eqb p.key k) with
      | none => rfl
      | some j => simp
  unfold escrow_Find
  simp only [h1, Option.bind_some]
  cases h : l.findIdx? (fun p => Key.eqb p.key k) with
  | none =>
    have h2 := List.findIdx?_eq_none_iff.1 h
    have h3 : l.find? (fun p => Key.eqb p.key k) = none := by
      rw [List.find?_eq_none]; intro x hx; simp [h2 x hx]
    rw [h3]; rfl
  | some j =>
    obtain ⟨hj, g1, g2⟩ := List.findIdx?_eq_some_iff_getElem.1 h
    have h3 : l.find? (fun p => Key.eqb p.key k) = some l[j] := by
      rw [List.find?_eq_some_iff_getElem]
      exact ⟨g1, j, hj, rfl, fun k hk => by simpa using g2 k hk⟩
    simp only [decide_eq_false (show ¬ (j : Int) < 0 by omega), cond_false, idx_nat, get_some hj, Option.bind_some, h3]
theorem rfindE (hn : 1003 ≤ n) (l : List Pending) (hl : l.length ≤ 1000) (k : Key) : ref10_Find n ⟨l⟩ k = some (match l.find? (fun p => Key.eqb p.key k) with | some p => (p, true) | none => (⟨⟨0, 0⟩, 0, []⟩, false)) := by
  show ref10_Find_l1 n n (l, (l.length : Int), ((0 : Nat) : Int), k, Pending.mk (Key.mk 0 0) 0 [], ()) = _
  unfold ref10_Find_l1
  refine (run_loop l (fun (i : Nat) (_ : Unit) => (l, (l.length : Int), (i : Int), k, Pending.mk (Key.mk 0 0) 0 [], ())) (fun i x _ => if Key.eqb x.key k then .inl (some (x, true)) else .inr ()) (fun _ => some (⟨⟨0, 0⟩, 0, []⟩, false)) (fun r i q x hx hi => ?_) (fun r q => ?_) n 0 () (by omega) (by omega)).trans ?_
  · simp only [lt_dec hi, cond_true, idx_nat, hx, Option.bind_some, wrap_succ (show i < 4611686018427387904 by omega)]
    cases Key.eqb x.key k <;> rfl
  · simp only [ge_dec (Nat.lt_irrefl _), cond_false]
  · rw [List.drop_zero]
    have key : ∀ (l : List Pending) (i : Nat), runL (fun (_ : Nat) (x : Pending) (_ : Unit) => if Key.eqb x.key k then (.inl (some (x, true)) : Option (Pending × Bool) ⊕ Unit) else .inr ()) (fun _ => some (⟨⟨0, 0⟩, 0, []⟩, false)) l i () = some (match l.find? (fun p => Key.eqb p.key k) with | some p => (p, true) | none => (⟨⟨0, 0⟩, 0, []⟩, false)) := by
      intro l
      induction l with
      | nil => intro i; rfl
      | cons x t ih =>
        intro i
        rw [List.find?_cons]
        cases h : Key.eqb x.key k with
        | true => simp [runL, h]
        | false => simp [runL, h, ih]
    exact key l 0
theorem cut_find (h : Cut (cK k) l A y B) : l.find? (fun p => Key.eqb p.key k) = y := by
  rw [← cut_find? h]
  congr 1
  funext p
  exact cK_eq.symm

/-! ### Copies of an escrow's rows -/
theorem idxM_nat {α : Type} {l : List α} {i : Nat} : idxM l (i : Int) i = l[i]? := by
  unfold idxM
  rw [if_pos rfl, idx_nat]
theorem sameI_self (i : Int) : sameI i i = some () := by unfold sameI; rw [if_pos rfl]
theorem sameN_self (i : Nat) : sameN i i = some () := by unfold sameN; rw [if_pos rfl]
theorem escIn_len (h : EscIn l) {p : Pending} (hp : p ∈ l) : p.shares.length ≤ 1000 := by have := (h p hp).2.2; omega
theorem withA (hn : 1003 ≤ n) (h : EscIn l) (hl : l.length ≤ 61) (k : Key) (a : Adding) :
    escrow_with_f69 n ⟨l⟩ k a = cond (!rightE l) (some (200, k, a, [])) ((escrow_Add_1 n l k a).bind fun y15 =>
      cond (y15.1 != 0)
        (some (y15.1, y15.2.1, y15.2.2.1, ([] : List Pending)))
        (some (0, y15.2.1, y15.2.2.1, y15.2.2.2))) := by
  unfold escrow_with_f69
  rw [echeck_eq hn h hl]
  cases hr : rightE l with
  | false => rfl
  | true =>
    simp only [if_true, Option.bind_some, show ((0 : Int) != 0) = false from rfl, cond_false, Bool.not_true, cloneP n (show l.length ≤ 1000 by omega)]
    show escrow_with_f69_l1 n n ((l.length : Int), ((0 : Nat) : Int), k, a, Escrow.mk [], 0, l, ()) = _
    unfold escrow_with_f69_l1
    refine (run_loop l (fun (i : Nat) (_ : Unit) => ((l.length : Int), (i : Int), k, a, Escrow.mk [], i, l, ())) (fun _ _ _ => .inr ()) (fun _ => (escrow_Add_1 n l k a).bind fun y15 =>
      cond (y15.1 != 0)
        (some (y15.1, y15.2.1, y15.2.2.1, ([] : List Pending)))
        (some (0, y15.2.1, y15.2.2.1, y15.2.2.2))) (fun r i s x hx hi => ?_) (fun r s => ?_) n 0 () (Nat.zero_le _) (by omega)).trans ?_
    · simp only [lt_dec hi, cond_true, idxM_nat, hx, Option.bind_some, sameI_self, cloneS n (escIn_len h (List.mem_of_getElem? hx)), Int.toNat_natCast, set_same hx, wrap_succ (show i < 4611686018427387904 by omega)]
    · simp only [ge_dec (Nat.lt_irrefl _), cond_false, sameN_self, Option.bind_some]
    · rw [List.drop_zero, runL_skip]
theorem withB (hn : 1003 ≤ n) (h : EscIn l) (hl : l.length ≤ 61) (k : Key) (t d : Int) :
    escrow_with_f73 n ⟨l⟩ k t d = cond (!rightE l) (some (200, k, t, d, [])) ((escrow_Back_1 n l k t d).bind fun y16 =>
      cond (y16.1 != 0)
        (some (y16.1, y16.2.1, y16.2.2.1, y16.2.2.2.1, ([] : List Pending)))
        (some (0, y16.2.1, y16.2.2.1, y16.2.2.2.1, y16.2.2.2.2))) := by
  unfold escrow_with_f73
  rw [echeck_eq hn h hl]
  cases hr : rightE l with
  | false => rfl
  | true =>
    simp only [if_true, Option.bind_some, show ((0 : Int) != 0) = false from rfl, cond_false, Bool.not_true, cloneP n (show l.length ≤ 1000 by omega)]
    show escrow_with_f73_l1 n n ((l.length : Int), ((0 : Nat) : Int), k, t, d, Escrow.mk [], 0, l, ()) = _
    unfold escrow_with_f73_l1
    refine (run_loop l (fun (i : Nat) (_ : Unit) => ((l.length : Int), (i : Int), k, t, d, Escrow.mk [], i, l, ())) (fun _ _ _ => .inr ()) (fun _ => (escrow_Back_1 n l k t d).bind fun y16 =>
      cond (y16.1 != 0)
        (some (y16.1, y16.2.1, y16.2.2.1, y16.2.2.2.1, ([] : List Pending)))
        (some (0, y16.2.1, y16.2.2.1, y16.2.2.2.1, y16.2.2.2.2))) (fun r i s x hx hi => ?_) (fun r s => ?_) n 0 () (Nat.zero_le _) (by omega)).trans ?_
    · simp only [lt_dec hi, cond_true, idxM_nat, hx, Option.bind_some, sameI_self, cloneS n (escIn_len h (List.mem_of_getElem? hx)), Int.toNat_natCast, set_same hx, wrap_succ (show i < 4611686018427387904 by omega)]
    · simp only [ge_dec (Nat.lt_irrefl _), cond_false, sameN_self, Option.bind_some]
    · rw [List.drop_zero, runL_skip]
theorem withO (hn : 1003 ≤ n) (h : EscIn l) (hl : l.length ≤ 61) (t : Int) (c : Bool) :
    escrow_with_f62 n ⟨l⟩ t c = cond (!rightE l) (some (200, t, c, [])) ((escrow_Over_1 n l t c).bind fun y15 =>
      cond (y15.1 != 0)
        (some (y15.1, y15.2.1, y15.2.2.1, ([] : List Pending)))
        (some (0, y15.2.1, y15.2.2.1, y15.2.2.2))) := by
  unfold escrow_with_f62
  rw [echeck_eq hn h hl]
  cases hr : rightE l with
  | false => rfl
  | true =>
    simp only [if_true, Option.bind_some, show ((0 : Int) != 0) = false from rfl, cond_false, Bool.not_true, cloneP n (show l.length ≤ 1000 by omega)]
    show escrow_with_f62_l1 n n ((l.length : Int), ((0 : Nat) : Int), t, c, Escrow.mk [], 0, l, ()) = _
    unfold escrow_with_f62_l1
    refine (run_loop l (fun (i : Nat) (_ : Unit) => ((l.length : Int), (i : Int), t, c, Escrow.mk [], i, l, ())) (fun _ _ _ => .inr ()) (fun _ => (escrow_Over_1 n l t c).bind fun y15 =>
      cond (y15.1 != 0)
        (some (y15.1, y15.2.1, y15.2.2.1, ([] : List Pending)))
        (some (0, y15.2.1, y15.2.2.1, y15.2.2.2))) (fun r i s x hx hi => ?_) (fun r s => ?_) n 0 () (Nat.zero_le _) (by omega)).trans ?_
    · simp only [lt_dec hi, cond_true, idxM_nat, hx, Option.bind_some, sameI_self, cloneS n (escIn_len h (List.mem_of_getElem? hx)), Int.toNat_natCast, set_same hx, wrap_succ (show i < 4611686018427387904 by omega)]
    · simp only [ge_dec (Nat.lt_irrefl _), cond_false, sameN_self, Option.bind_some]
    · rw [List.drop_zero, runL_skip]
end
end Go.Proofs.Ytfidbgcdjmhjnaa
