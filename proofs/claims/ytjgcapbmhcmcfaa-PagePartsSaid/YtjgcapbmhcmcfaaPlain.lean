/- Layer 11: the plain law PageBack. -/
import Derived.Test.YtjgcapbmhcmcfaaPageA
namespace Go.Proofs.Ytjgcapbmhcmcfaa
open Go.Bur
set_option linter.unusedSimpArgs false
set_option linter.unusedVariables false
set_option maxRecDepth 100000

theorem wakes : law11_wakes 2000 = some true := by kernel_rfl
def bigRow (r : Row) : Bool := decide ((r.note.size : Int) > 100)
def overC (c : Content) : Bool := (decide (20 < c.rows.length) || decide (20 < c.kids.length)) || c.rows.any bigRow
theorem runL_any {α R : Type} {p : α → Bool} {v : Option R} {fin : Unit → Option R} : ∀ (l : List α) (i : Nat), runL (fun _ x (_ : Unit) => if p x then .inl v else .inr ()) fin l i () = if l.any p then v else fin ()
  | [], _ => rfl
  | x :: t, i => by
    by_cases hp : p x = true
    · simp [runL, hp]
    · have hp : p x = false := by simpa using hp
      simp only [runL, hp, List.any_cons, Bool.false_or]; exact runL_any t (i + 1)
theorem over2_eq (n : Nat) (hn : 1003 ≤ n) (r1 : (List Content) × Int × Int × Unit → Option Bool) (cs : List Content) (a b : Int) (l : List Row) (hl : l.length ≤ 1000) :
    law11_over_l2 n r1 n (cs, a, b, l, (l.length : Int), 0, ()) = if l.any bigRow then some true else r1 (cs, a, IntKind.wrap .i64 (b + 1), ()) := by
  show law11_over_l2 n r1 n (cs, a, b, l, (l.length : Int), ((0 : Nat) : Int), ()) = _
  unfold law11_over_l2
  refine (run_loop l (fun (i : Nat) (_ : Unit) => (cs, a, b, l, (l.length : Int), (i : Int), ())) (fun _ x _ => if bigRow x then .inl (some true) else .inr ()) (fun _ => r1 (cs, a, IntKind.wrap .i64 (b + 1), ())) (fun r i s x hx hi => ?_) (fun r s => ?_) n 0 () (by omega) (by omega)).trans ?_
  · simp only [lt_dec hi, cond_true, idx_nat, hx, Option.bind_some, wrap_succ (show i < 4611686018427387904 by omega)]
    unfold bigRow
    by_cases h : (x.note.size : Int) > 100
    · rw [decide_eq_true h]; rfl
    · rw [decide_eq_false h]; rfl
  · simp only [ge_dec (Nat.lt_irrefl _), cond_false]
  · rw [List.drop_zero, runL_any]
theorem over_eq (n : Nat) (hn : 1003 ≤ n) (cs : List Content) (hl : cs.length ≤ 1000) : law11_over n cs = some (cs.any overC) := by
  show law11_over_l1 n n (cs, (cs.length : Int), ((0 : Nat) : Int), ()) = _
  unfold law11_over_l1
  refine (run_loop cs (fun (i : Nat) (_ : Unit) => (cs, (cs.length : Int), (i : Int), ())) (fun _ x _ => if overC x then .inl (some true) else .inr ()) (fun _ => some false) (fun r i s x hx hi => ?_) (fun r s => ?_) n 0 () (by omega) (by omega)).trans ?_
  · simp only [lt_dec hi, cond_true, idx_nat, hx, Option.bind_some, jn]
    unfold overC
    by_cases h1 : 20 < x.rows.length
    · rw [decide_eq_true (by omega : (x.rows.length : Int) > 20), decide_eq_true h1]; rfl
    · rw [decide_eq_false (by omega : ¬ (x.rows.length : Int) > 20), decide_eq_false h1]
      by_cases h2 : 20 < x.kids.length
      · rw [decide_eq_true (by omega : (x.kids.length : Int) > 20), decide_eq_true h2]; rfl
      · rw [decide_eq_false (by omega : ¬ (x.kids.length : Int) > 20), decide_eq_false h2]
        simp only [cond_false, over2_eq n hn r cs _ _ x.rows (by omega), wrap_succ (show i < 4611686018427387904 by omega), Bool.false_or]
        cases x.rows.any bigRow <;> rfl
  · simp only [ge_dec (Nat.lt_irrefl _), cond_false]
  · rw [List.drop_zero, runL_any]
    cases cs.any overC <;> rfl
theorem keyIn_i64 {x : Int} (h : inI .i64 x) : keyIn .i64 x = true := by
  unfold keyIn
  obtain ⟨h1, h2⟩ := h
  simp [Lit.wf, h1]
  exact h2
theorem fine_of {c : Content} (h : okT tab 9 (.st 3) c) (ho : overC c = false) : Fine c := by
  unfold overC at ho
  simp only [Bool.or_eq_false_iff, decide_eq_false_iff_not] at ho
  exact ⟨by omega, by omega, fun k hk => keyIn_i64 (h.2.2.1.1 k hk).2.2.1⟩
theorem eqb_row (r : Row) : Row.eqb r r = true := by simp [Row.eqb]
theorem eqb_kid (r : Kid) : Kid.eqb r r = true := by simp [Kid.eqb]
theorem equalR (n : Nat) (hn : 1003 ≤ n) (l : List Row) (hl : l.length ≤ 1000) : slices_Equal_Row n l l = some true := by
  unfold slices_Equal_Row
  rw [show ((l.length : Int) != (l.length : Int)) = false from by simp]
  show slices_Equal_Row_l1 n n (l, l, (l.length : Int), ((0 : Nat) : Int), ()) = some true
  unfold slices_Equal_Row_l1
  refine (run_loop l (fun (i : Nat) (_ : Unit) => (l, l, (l.length : Int), (i : Int), ())) (fun _ x s => .inr s) (fun _ => some true) (fun r i s x hx hi => ?_) (fun r s => ?_) n 0 () (by omega) (by omega)).trans ?_
  · simp only [lt_dec hi, cond_true, idx_nat, hx, Option.bind_some, eqb_row, Bool.not_true, cond_false, wrap_succ (show i < 4611686018427387904 by omega)]
  · simp only [ge_dec (Nat.lt_irrefl _), cond_false]
  · exact runL_skip _ _
theorem equalK (n : Nat) (hn : 1003 ≤ n) (l : List Kid) (hl : l.length ≤ 1000) : slices_Equal_Kid n l l = some true := by
  unfold slices_Equal_Kid
  rw [show ((l.length : Int) != (l.length : Int)) = false from by simp]
  show slices_Equal_Kid_l1 n n (l, l, (l.length : Int), ((0 : Nat) : Int), ()) = some true
  unfold slices_Equal_Kid_l1
  refine (run_loop l (fun (i : Nat) (_ : Unit) => (l, l, (l.length : Int), (i : Int), ())) (fun _ x s => .inr s) (fun _ => some true) (fun r i s x hx hi => ?_) (fun r s => ?_) n 0 () (by omega) (by omega)).trans ?_
  · simp only [lt_dec hi, cond_true, idx_nat, hx, Option.bind_some, eqb_kid, Bool.not_true, cond_false, wrap_succ (show i < 4611686018427387904 by omega)]
  · simp only [ge_dec (Nat.lt_irrefl _), cond_false]
  · exact runL_skip _ _
theorem same_refl (n : Nat) (hn : 1003 ≤ n) (c : Content) (hc : Fine c) : codec_Same n c c = some true := by
  unfold codec_Same
  simp [jn, equalR n hn _ hc.rows, equalK n hn _ hc.kids]
theorem Full_eq (n : Nat) (hn : 1003 ≤ n) (c : Content) (hc : Fine c) : page_Full n c = some (checkP c && fullP c) := by
  unfold page_Full
  simp only [check_eq n hn c hc, full_eq n c hc, Option.bind_some, jn]
  cases checkP c <;> rfl
theorem Size_eq (n : Nat) (hn : 1003 ≤ n) (c : Content) (hc : Fine c) : page_Size n c = some (if checkP c then (sizeP c : Int) else 0) := by
  unfold page_Size
  simp only [check_eq n hn c hc, size_eq n c hc, Option.bind_some, jn]
  cases checkP c <;> rfl
theorem Small_eq (n : Nat) (hn : 1003 ≤ n) (c : Content) (hc : Fine c) : page_Small n c = some (checkP c && (!decide (c.kind = 0) && decide (sizeP c ≤ 2))) := by
  unfold page_Small
  simp only [check_eq n hn c hc, size_eq n c hc, Option.bind_some, jn]
  have h2 : decide ((sizeP c : Int) ≤ 2) = decide (sizeP c ≤ 2) := by simp; omega
  have h3 : (c.kind != 0) = !decide (c.kind = 0) := by rw [bne, ibeq]
  rw [h2, h3]
  cases checkP c <;> cases decide (c.kind = 0) <;> rfl
theorem comes_eq (n : Nat) (hn : 1003 ≤ n) (cs : List Content) (hl : cs.length ≤ 1000) (hc : ∀ c ∈ cs, Fine c) : page_comes n cs = some (if cs.all checkP then 0 else 2) := by
  unfold page_comes
  rw [asked_eq n hn cs hl hc]
  cases cs.all checkP <;> rfl
theorem len4 {α : Type} {l : List α} (h : l.length = 4) : ∃ a b c d, l = [a, b, c, d] := by
  match l, h with
  | [a, b, c, d], _ => exact ⟨a, b, c, d, rfl⟩
theorem join_eq (n : Nat) (hn : 1003 ≤ n) (a b j : Content) (k : Key) (ha : Fine a) (hb : Fine b) (hj : Fine j) (ca : checkP a = true) (cb : checkP b = true) (cj : checkP j = true) (hk : a.kind = b.kind) (h0 : a.kind ≠ 0) (hs : sizeP a + sizeP b ≤ 4) (hjo : page_joined n a b k = some j) :
    page_Join n a b k = some (j, 0) := by
  unfold page_Join
  rw [asked_eq n hn [a, b] (by simp) (by intro c hc; simp at hc; rcases hc with rfl | rfl <;> assumption)]
  have hall : [a, b].all checkP = true := by simp [ca, cb]
  have hal : page_alike n a b = some true := by unfold page_alike; simp [jn, hk, hk ▸ h0]
  rw [hall]
  simp only [if_true, Option.bind_some, hal, size_eq n a ha, size_eq n b hb, hjo, wrap_add (show sizeP a + sizeP b < 4611686018427387904 by omega)]
  have h4 : decide (((sizeP a + sizeP b : Nat) : Int) > 4) = false := decide_eq_false (by omega)
  have hone : page_one n j = some (j, 0) := by
    unfold page_one
    rw [comes_eq n hn [j] (by simp) (by intro c hc; simp at hc; subst hc; exact hj)]
    simp [cj]
  rw [h4, hone]
  rfl
theorem plainPageBack (c : Content) (h : okT tab 9 (.st 3) c) : ∃ n, law11_PageBack n c = some true := by
  refine ⟨2000, ?_⟩
  have hn : 1003 ≤ 2000 := by decide
  unfold law11_PageBack
  rw [wakes]
  simp only [Option.bind_some, Bool.not_true, cond_false]
  rw [over_eq 2000 hn [c] (by simp)]
  by_cases ho : overC c = true
  · simp [ho]
  have ho : overC c = false := by simpa using ho
  have hc := fine_of h ho
  simp only [List.any_cons, List.any_nil, ho, Bool.or_false, Option.bind_some, cond_false, Full_eq 2000 hn c hc]
  have hasked := asked_eq 2000 hn [c] (by simp) (by intro d hd; simp at hd; subst hd; exact hc)
  by_cases hck : checkP c = true
  · by_cases hf : fullP c = true
    · -- it is split
      have hkind : c.kind = 1 ∨ c.kind = 2 := by
        unfold fullP at hf; simp at hf; exact hf.1
      have hsz : sizeP c = 4 := by unfold fullP at hf; simp at hf; exact hf.2
      have hsp : ∀ y, (cond (c.kind == 1)
        ((page_cut_Row 2000 c.rows 2).bind fun y3 =>
        (page_leaf 2000 y3.1).bind fun y4 =>
        (page_leaf 2000 y3.2).bind fun y5 =>
        (idx y3.2 0).bind fun x6 =>
        some (y4, y5, x6.key, (0 : Int)))
        ((page_cut_Kid 2000 c.kids 2).bind fun y7 =>
        (page_first 2000 (Key.mk 0 0) y7.2).bind fun y8 =>
        (page_inner 2000 y7.1).bind fun y9 =>
        (page_inner 2000 y8.2).bind fun y10 =>
        some (y9, y10, y8.1, (0 : Int)))) = some y → page_Split 2000 c = some y := fun y hy => by
        unfold page_Split
        rw [hasked]
        simp only [List.all_cons, List.all_nil, hck, Bool.and_true, if_true, Option.bind_some, full_eq 2000 c hc, hf]
        exact hy
      have hall : ∀ (a b : Content) (k : Key), Fine a → Fine b → checkP a = true → checkP b = true → a.kind = c.kind → b.kind = c.kind → sizeP a = 2 → sizeP b = 2 → page_Split 2000 c = some (a, b, k, 0) → page_joined 2000 a b k = some c →
          ((page_Split 2000 c).bind fun y3 =>
      cond (y3.2.2.2 != 0)
        ((some (checkP c && fullP c)).bind fun y4 =>
        some (!y4))
        ((page_Join 2000 y3.1 y3.2.1 y3.2.2.1).bind fun y5 =>
        jn (fun (b6 : Bool) =>
            jn (fun (b8 : Bool) =>
                jn (fun (b10 : Bool) =>
                    jn (fun (b12 : Bool) =>
                        jn (fun (b14 : Bool) =>
                            some b14) fun k15 =>
                        cond b12
                          ((page_Small 2000 y3.2.1).bind fun y16 =>
                          k15 y16)
                          (k15 false)) fun k13 =>
                    cond b10
                      ((page_Small 2000 y3.1).bind fun y17 =>
                      k13 y17)
                      (k13 false)) fun k11 =>
                cond b8
                  ((page_Size 2000 y3.2.1).bind fun y18 =>
                  k11 (y18 == 2))
                  (k11 false)) fun k9 =>
            cond b6
              ((page_Size 2000 y3.1).bind fun y19 =>
              k9 (y19 == 2))
              (k9 false)) fun k7 =>
        cond (y5.2 == 0)
          ((codec_Same 2000 y5.1 c).bind fun y20 =>
          k7 y20)
          (k7 false))) = some true := by
        intro a b k fa fb ca cb ka kb sa sb hsplit hjoin
        rw [hsplit]
        have hj := join_eq 2000 hn a b c k fa fb hc ca cb hck (ka.trans kb.symm) (by rw [ka]; rcases hkind with e | e <;> rw [e] <;> decide) (by omega) hjoin
        have hk0 : ∀ x : Content, x.kind = c.kind → decide (x.kind = 0) = false := fun x hx => decide_eq_false (by rw [hx]; rcases hkind with e | e <;> rw [e] <;> decide)
        simp only [Option.bind_some, hj, jn, same_refl 2000 hn c hc, Size_eq 2000 hn a fa, Size_eq 2000 hn b fb, Small_eq 2000 hn a fa, Small_eq 2000 hn b fb, ca, cb, sa, sb, hk0 a ka, hk0 b kb]
        rfl
      rcases hkind with hk | hk
      · -- a leaf
        have hck' := hck
        unfold checkP at hck'
        rw [if_neg (by rw [hk]; decide), if_pos hk] at hck'
        simp only [Bool.and_eq_true, decide_eq_true_iff] at hck'
        obtain ⟨e0, e1, e2⟩ := hck'
        obtain ⟨kind, rows, kids⟩ := c
        simp only at hk e0 e1 e2
        subst hk
        have hkids : kids = [] := List.eq_nil_of_length_eq_zero e0
        subst hkids
        obtain ⟨r1, r2, r3, r4, rfl⟩ := len4 (show rows.length = 4 by simpa [sizeP] using hsz)
        simp only [risesR, Bool.and_eq_true, Bool.and_true] at e2
        refine hall ⟨1, [r1, r2], []⟩ ⟨1, [r3, r4], []⟩ r3.key ⟨by simp, by simp, by simp⟩ ⟨by simp, by simp, by simp⟩ (by simp [checkP, risesR, e2]) (by simp [checkP, risesR, e2]) rfl rfl rfl rfl (hsp _ ?_) ?_
        · rw [show page_cut_Row 2000 [r1, r2, r3, r4] 2 = some ([r1, r2], [r3, r4]) from cutR_eq 2000 [r1, r2, r3, r4] (by simp) 2 (by simp)]
          rfl
        · unfold page_joined
          simp only [show ((1 : Int) == 1) = true from by decide, cond_true]
          rw [concatR_eq 2000 hn [r1, r2] [r3, r4] (by simp) (by simp)]
          rfl
      · -- an inner page
        have hck' := hck
        unfold checkP at hck'
        rw [if_neg (by rw [hk]; decide), if_neg (by rw [hk]; decide), if_pos hk] at hck'
        simp only [Bool.and_eq_true, decide_eq_true_iff] at hck'
        obtain ⟨e0, _, e1, e2⟩ := hck'
        obtain ⟨kind, rows, kids⟩ := c
        simp only at hk e0 e1 e2
        subst hk
        have hrows : rows = [] := List.eq_nil_of_length_eq_zero e0
        subst hrows
        obtain ⟨r1, r2, r3, r4, rfl⟩ := len4 (show kids.length = 4 by simpa [sizeP] using hsz)
        have hid : ∀ k ∈ [r1, r2, r3, r4], 0 ≤ k.least.id := fun k hk => (h.2.2.1.1 k hk).2.1.1
        have hid3 := hid r3 (by simp)
        simp only [risesK, goK, okKid, mget, Bool.and_eq_true, Bool.and_true, Bool.not_eq_true', decide_eq_true_iff, Option.isSome_none, Option.isSome_some, Bool.false_or, Bool.true_or] at e2
        obtain ⟨⟨⟨⟨⟨g1, g2⟩, g3⟩, g4⟩, g5⟩, ⟨⟨⟨⟨m1, m2⟩, m3⟩, m4⟩, m5⟩, ⟨⟨⟨⟨n1, n2⟩, n3⟩, n4⟩, n5⟩, ⟨⟨⟨⟨o1, o2⟩, o3⟩, o4⟩, o5⟩⟩ := e2
        have o4' : 0 ≤ r4.least.table ∧ r4.least.table < 3 := by simpa [okTab] using o4
        have h34 : r3.page ≠ r4.page := fun e => by simp [e] at o1
        have hlt : ltK key0 r4.least = true := by
          rw [ltK_iff] at o5 ⊢
          unfold okTab at n4
          simp only [Bool.and_eq_true, decide_eq_true_iff] at n4
          show 0 < r4.least.table ∨ (0 = r4.least.table ∧ 0 < r4.least.id)
          omega
        refine hall ⟨2, [], [r1, r2]⟩ ⟨2, [], [⟨key0, r3.page⟩, r4]⟩ r3.least ⟨by simp, by simp, fun k hk => hc.page k (by simp at hk ⊢; rcases hk with e | e <;> simp [e])⟩ ⟨by simp, by simp, fun k hk => ?_⟩ (by simp [checkP, risesK, goK, okKid, mget, g1, g2, g3, g4, g5, m1, m2, m3, m4, m5] <;> simpa [mget] using m1) (by simp [checkP, risesK, goK, okKid, mget, n2, n3, o2, o3, o4, h34, hlt, okTab, key0, Key.eqb] <;> exact ⟨o4', hlt⟩) rfl rfl rfl rfl (hsp _ ?_) ?_
        · simp only [List.mem_cons, List.not_mem_nil, or_false] at hk
          rcases hk with e | e
          · rw [e]; exact hc.page r3 (by simp)
          · rw [e]; exact hc.page r4 (by simp)
        · rw [show page_cut_Kid 2000 [r1, r2, r3, r4] 2 = some ([r1, r2], [r3, r4]) from cutK_eq 2000 [r1, r2, r3, r4] (by simp) 2 (by simp)]
          simp only [Option.bind_some, first_eq]
          rfl
        · unfold page_joined
          simp only [show ((2 : Int) == 1) = false from by decide, cond_false]
          rw [cloneK_eq 2000 _ (by simp)]
          simp only [Option.bind_some, first_eq]
          rw [concatK_eq 2000 hn [r1, r2] [⟨r3.least, r3.page⟩, r4] (by simp) (by simp)]
          rfl
    · have hf : fullP c = false := by simpa using hf
      have : page_Split 2000 c = some (⟨0, [], []⟩, ⟨0, [], []⟩, ⟨0, 0⟩, 2) := by
        unfold page_Split
        rw [hasked]
        simp only [List.all_cons, List.all_nil, hck, Bool.and_true, if_true, Option.bind_some, full_eq 2000 c hc, hf]
        rfl
      rw [this, hck, hf]
      rfl
  · have hck : checkP c = false := by simpa using hck
    have : page_Split 2000 c = some (⟨0, [], []⟩, ⟨0, [], []⟩, ⟨0, 0⟩, 160) := by
      unfold page_Split
      rw [hasked]
      simp only [List.all_cons, List.all_nil, hck, Bool.false_and, Option.bind_some]
      rfl
    rw [this, hck]
    rfl
end Go.Proofs.Ytjgcapbmhcmcfaa
