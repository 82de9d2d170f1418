/- Escrows: likeness, ends, a first run; which numbers a law is handed. -/
import Derived.Test.YtfidbgcdjmhjnaaEscG
namespace Go.Proofs.Ytfidbgcdjmhjnaa
open Go.Bur
set_option linter.unusedSimpArgs false
set_option linter.unusedVariables false
set_option maxRecDepth 100000

/-! ### Likeness -/
theorem share_eqb (x : Share) : Share.eqb x x = true := by simp [Share.eqb]
def pendSame (p q : Pending) : Bool := Key.eqb p.key q.key && (p.value == q.value) && sameL Share.eqb p.shares q.shares
theorem pendSame_refl (p : Pending) : pendSame p p = true := by
  unfold pendSame
  rw [key_eqb, sameL_refl share_eqb]
  simp
def escSame (a b : List Pending) : Bool := sameL pendSame a b
theorem escSame_refl (a : List Pending) : escSame a a = true := sameL_refl pendSame_refl a
section
variable {n : Nat}
theorem rsamePending_eq (hn : 1003 ≤ n) (p q : Pending) (hp : p.shares.length ≤ 1000) : ref10_SamePending n p q = some (pendSame p q) := by
  unfold ref10_SamePending pendSame
  simp only [jn_or, ineN]
  rw [show (p.value != q.value) = !(p.value == q.value) from rfl]
  by_cases h : p.shares.length = q.shares.length
  · have h1 : ref10_SamePending_l1 n n ((p.shares.length : Int), 0, p, q, ()) = some (sameL Share.eqb p.shares q.shares) := by
      show ref10_SamePending_l1 n n ((p.shares.length : Int), ((0 : Nat) : Int), p, q, ()) = _
      unfold ref10_SamePending_l1
      refine (run_loop p.shares (fun (i : Nat) (_ : Unit) => ((p.shares.length : Int), (i : Int), p, q, ())) (fun i x _ => if atE Share.eqb q.shares i x then .inr () else .inl (some false)) (fun _ => some true) (fun r i s x hx hi => ?_) (fun r s => ?_) n 0 () (by omega) (by omega)).trans ?_
      · have hb := get_some (show i < q.shares.length by omega)
        simp only [lt_dec hi, cond_true, idx_nat, hx, hb, Option.bind_some, wrap_succ (show i < 4611686018427387904 by omega), atE]
        cases Share.eqb x q.shares[i] <;> rfl
      · simp only [ge_dec (Nat.lt_irrefl _), cond_false]
      · rw [List.drop_zero, runL_allFrom, sameL_from q.shares p.shares 0 (by omega), List.drop_zero]
        cases sameL Share.eqb p.shares q.shares <;> rfl
    rw [decide_eq_true h, h1]
    cases Key.eqb p.key q.key <;> cases (p.value == q.value) <;> rfl
  · rw [decide_eq_false h, sameL_len h]
    cases Key.eqb p.key q.key <;> cases (p.value == q.value) <;> rfl
theorem rsameE_eq (hn : 1003 ≤ n) (a b : List Pending) (ha : a.length ≤ 1000) (hs : ∀ p ∈ a, p.shares.length ≤ 1000) : ref10_Same n ⟨a⟩ ⟨b⟩ = some (escSame a b) := by
  unfold ref10_Same escSame
  simp only [ineN]
  by_cases h : a.length = b.length
  · rw [decide_eq_true h]
    simp only [Bool.not_true, cond_false]
    show ref10_Same_l1 n n ((a.length : Int), ((0 : Nat) : Int), ⟨a⟩, ⟨b⟩, ()) = some (sameL pendSame a b)
    unfold ref10_Same_l1
    refine (run_loop a (fun (i : Nat) (_ : Unit) => ((a.length : Int), (i : Int), Escrow.mk a, Escrow.mk b, ())) (fun i x _ => if atE pendSame b i x then .inr () else .inl (some false)) (fun _ => some true) (fun r i q x hx hi => ?_) (fun r q => ?_) n 0 () (by omega) (by omega)).trans ?_
    · have hb := get_some (show i < b.length by omega)
      simp only [lt_dec hi, cond_true, idx_nat, hx, hb, Option.bind_some, rsamePending_eq hn x b[i] (hs x (List.mem_of_getElem? hx)), wrap_succ (show i < 4611686018427387904 by omega), atE]
      cases pendSame x b[i] <;> rfl
    · simp only [ge_dec (Nat.lt_irrefl _), cond_false]
    · rw [List.drop_zero, runL_allFrom, sameL_from b a 0 (by omega), List.drop_zero]
      cases sameL pendSame a b <;> rfl
  · rw [decide_eq_false h, sameL_len h]; rfl
/-! ### Ends -/
/-! ### A first run -/
theorem escIn_nil : EscIn [] := fun p hp => by cases hp
theorem cut_nil {α : Type} {c : α → Int} : Cut c [] [] none [] := ⟨rfl, by simp, by simp, by simp⟩
theorem cut_one {α : Type} {c : α → Int} {x : α} (h : c x = 0) : Cut c [x] [] (some x) [] := ⟨rfl, by simp, fun y hy => by cases hy; exact h, by simp⟩
theorem wakes10 (hn : 1003 ≤ n) : law10_wakes n = some true := by
  have k7 : KeyIn ⟨0, 7⟩ := ⟨by decide, by decide⟩
  have o0 : EscOk [] := ⟨by simp, by simp, List.Pairwise.nil⟩
  have o1 : EscOk [⟨⟨0, 7⟩, 4, [⟨1, 5, 5, 0⟩]⟩] := ⟨by simp, fun p hp => by obtain rfl := List.mem_singleton.1 hp; decide, List.pairwise_singleton _ _⟩
  have i1 : EscIn [⟨⟨0, 7⟩, 4, [⟨1, 5, 5, 0⟩]⟩] := fun p hp => by
    obtain rfl := List.mem_singleton.1 hp
    refine ⟨⟨by decide, fun s hs => ?_⟩, k7, by simp⟩
    obtain rfl := List.mem_singleton.1 hs
    decide
  have e1 : escrow_Add n ⟨[]⟩ ⟨0, 7⟩ ⟨1, 5, 4, ⟨0, 10⟩⟩ = some (0, [⟨⟨0, 7⟩, 4, [⟨1, 5, 5, 0⟩]⟩]) := by
    rw [add_eq (n := n) hn o0 escIn_nil cut_nil (a := ⟨1, 5, 4, ⟨0, 10⟩⟩) ⟨by decide, by decide, by decide, by decide⟩ cut_nil]
    kernel_rfl
  have e2 : ∃ l, escrow_Add n ⟨[⟨⟨0, 7⟩, 4, [⟨1, 5, 5, 0⟩]⟩]⟩ ⟨0, 7⟩ ⟨2, 2, 0, ⟨0, 10⟩⟩ = some (152, l) := by
    rw [add_eq (n := n) hn o1 i1 (cut_one rfl) (a := ⟨2, 2, 0, ⟨0, 10⟩⟩) ⟨by decide, by decide, by decide, by decide⟩ (A' := [⟨1, 5, 5, 0⟩]) (y' := none) (B' := []) ⟨rfl, fun x hx => by obtain rfl := List.mem_singleton.1 hx; decide, by simp, by simp⟩]
    exact ⟨[], by kernel_rfl⟩
  have e3 : escrow_Back n ⟨[⟨⟨0, 7⟩, 4, [⟨1, 5, 5, 0⟩]⟩]⟩ ⟨0, 7⟩ 1 5 = some (0, [⟨⟨0, 7⟩, 4, [⟨1, 0, 5, 0⟩]⟩]) := by
    rw [back_eq (n := n) hn o1 i1 (cut_one rfl) (by decide) (A' := []) (y' := some ⟨1, 5, 5, 0⟩) (B' := []) (fun p hp => by cases hp; exact cut_one rfl)]
    kernel_rfl
  have e4 : escrow_Find n ⟨[⟨⟨0, 7⟩, 4, [⟨1, 0, 5, 0⟩]⟩]⟩ ⟨0, 7⟩ = some (⟨⟨0, 7⟩, 4, [⟨1, 0, 5, 0⟩]⟩, true) := by
    rw [findE hn _ (by simp)]; rfl
  obtain ⟨l2, e2⟩ := e2
  unfold law10_wakes
  simp only [e1, e2, e3, e4, Option.bind_some, jn]
  rfl
end
/-! ### What a law is handed -/
theorem pend_of {d : Nat} {p : Pending} (h : okT tab (d + 3) (.st 2) p) : PendIn p ∧ KeyIn p.key := ⟨⟨h.2.2.1, fun s hs => ⟨(h.2.2.2.1.1 s hs).2.2.2.1, (h.2.2.2.1.1 s hs).2.1, (h.2.2.2.1.1 s hs).2.2.1⟩⟩, h.2.1⟩
theorem fewP_in {p : Pending} (h : PendIn p) : PendIn (fewP p) := ⟨h.1, fun s hs => h.2 s (List.mem_of_mem_take hs)⟩
theorem few_in {d : Nat} {x : Escrow} (h : okT tab (d + 4) (.st 5) x) : EscIn (fewL x.rows) := fun p hp => by
  unfold fewL at hp
  obtain ⟨q, hq, rfl⟩ := List.mem_map.1 hp
  obtain ⟨h1, h2⟩ := pend_of (d := d) (h.1.1 q (List.mem_of_mem_take hq))
  exact ⟨fewP_in h1, h2, by unfold fewP; simp; omega⟩
end Go.Proofs.Ytfidbgcdjmhjnaa
