import Derived.Test.YtlcmdgpjiendmaaGreatTreC
namespace Go.Proofs.YtlcmdgpjiendmaaGreat
open Go.Bur
set_option linter.unusedSimpArgs false
set_option linter.unusedVariables false
set_option maxRecDepth 100000
theorem pg_nat {f : List Content} {i : Nat} {c : Content} (h : f[i]? = some c) : pg f (i : Int) = c := by unfold pg; rw [idx_nat, h]; rfl
theorem pg_mem {f : List Content} {n : Int} (h : 0 ≤ n ∧ n < f.length) : pg f n ∈ f := (idx_some (idx_pg h)).2.2
theorem mem_pg {f : List Content} {c : Content} (h : c ∈ f) : ∃ n : Int, (0 ≤ n ∧ n < f.length) ∧ pg f n = c := by
  obtain ⟨i, hi, e⟩ := List.mem_iff_getElem.1 h
  exact ⟨(i : Int), ⟨by omega, by omega⟩, pg_nat (by rw [get_some hi, e])⟩
theorem bad_run (n : Nat) (hn : 1003 ≤ n) (f : List Content) (hl : f.length ≤ 1000) (hc : ∀ c ∈ f, Fine c) : slices_ContainsFunc_Content_f78 n f = some (f.any fun c => !checkP c) := by
  have key : ∀ (k : Nat) (t : List Content) (i : Nat), f.drop i = t → i ≤ f.length → t.length < k → ∃ v, slices_IndexFunc_Content_f78_l1 n k (f, (f.length : Int), (i : Int), ()) = some v ∧ decide (v ≥ 0) = t.any fun c => !checkP c := by
    intro k
    induction k with
    | zero => intro t i _ _ h; omega
    | succ k ih =>
      intro t i ht hi hk
      unfold slices_IndexFunc_Content_f78_l1
      rw [loopF_succ]
      generalize hr : loopF _ k = r1
      replace hr : slices_IndexFunc_Content_f78_l1 n k = r1 := hr
      simp only [hr] at ih
      cases t with
      | nil =>
        cases drop_end ht hi
        simp only [ge_dec (Nat.lt_irrefl _), cond_false, List.any_nil]
        exact ⟨-1, rfl, by decide⟩
      | cons x t =>
        obtain ⟨h1, h2, h3⟩ := drop_get ht
        have hx : x ∈ f := List.mem_of_getElem? h1
        have e : tree_look_1 n x = some (!checkP x) := by
          unfold tree_look_1; rw [check_eq n hn x (hc x hx)]
          cases checkP x <;> rfl
        simp only [lt_dec h3, cond_true, idx_nat, h1, Option.bind_some, e, List.any_cons]
        cases hb : checkP x with
        | false => exact ⟨(i : Int), rfl, by simp⟩
        | true =>
          simp only [Bool.not_true, cond_false, Bool.false_or, wrap_succ (show i < 4611686018427387904 by omega)]
          exact ih t (i + 1) h2 (by omega) (by simp only [List.length_cons] at hk; omega)
  obtain ⟨v, h1, h2⟩ := key n f 0 rfl (Nat.zero_le _) (by omega)
  unfold slices_ContainsFunc_Content_f78 slices_IndexFunc_Content_f78
  rw [show ((0 : Int)) = ((0 : Nat) : Int) from rfl, h1]
  simp only [Option.bind_some]
  exact congrArg some h2
theorem rest_run (n : Nat) (f : List Content) (hl : f.length ≤ 1000) (q : Met) (w : Int) : ∀ (k : Nat) (t : List Content) (i : Nat), f.drop i = t → i ≤ f.length → t.length < k →
    tree_look_l4 n k (f, (f.length : Int), (i : Int), f, w, q, ()) = some (allFrom (fun j c => mget false q (j : Int) || decide (c.kind = 0)) i t, f, w, q) := by
  intro k
  induction k with
  | zero => intro t i _ _ h; omega
  | succ k ih =>
    intro t i ht hi hk
    unfold tree_look_l4
    rw [loopF_succ]
    generalize hr : loopF _ k = r1
    replace hr : tree_look_l4 n k = r1 := hr
    simp only [hr] at ih
    cases t with
    | nil =>
      cases drop_end ht hi
      simp only [ge_dec (Nat.lt_irrefl _), cond_false]; rfl
    | cons x t =>
      obtain ⟨h1, h2, h3⟩ := drop_get ht
      have hkey : keyIn .i64 (i : Int) = true := by
        have e1 : IntKind.i64.min = -9223372036854775808 := rfl
        have e2 : IntKind.i64.max = 9223372036854775807 := rfl
        exact keyIn_i64 ⟨by omega, by omega⟩
      have hm : mlook .i64 false q (i : Int) = some (mget false q (i : Int)) := by unfold mlook; rw [hkey]
      simp only [lt_dec h3, cond_true, idx_nat, h1, Option.bind_some, hm, jn, ine0, allFrom, wrap_succ (show i < 4611686018427387904 by omega), ih t (i + 1) h2 (by omega) (by simp only [List.length_cons] at hk; omega)]
      cases mget false q (i : Int) <;> cases decide (x.kind = 0) <;> rfl
theorem allFrom_iff {α : Type} {p : Nat → α → Bool} : ∀ (l : List α) (i : Nat), allFrom p i l = true ↔ ∀ j x, l[j]? = some x → p (i + j) x = true
  | [], i => by simp [allFrom]
  | y :: t, i => by
    simp only [allFrom, Bool.and_eq_true, allFrom_iff t (i + 1)]
    constructor
    · rintro ⟨h1, h2⟩ j x hx
      cases j with
      | zero => cases hx; exact h1
      | succ j => have := h2 j x hx; rw [show i + (j + 1) = i + 1 + j by omega]; exact this
    · intro h
      refine ⟨h 0 y rfl, fun j x hx => ?_⟩
      have := h (j + 1) x hx
      rw [show i + 1 + j = i + (j + 1) by omega]; exact this
theorem look_eq (n : Nat) (hn : 2000 ≤ n) (f : List Content) (hl : f.length ≤ 1000) (hc : ∀ c ∈ f, Fine c) : (∀ d, Good f d → tree_look n ⟨f⟩ = some (true, f, (d : Int), marks (pgs f d 0) [])) ∧ ((¬ ∃ d, Good f d) → ∃ x, tree_look n ⟨f⟩ = some (false, x)) := by
  have hlen : ((f.length : Int) != 64) = !decide (f.length = 64) := by
    rw [bne, ibeq]; congr 1; exact decide_eq_decide.2 (by omega)
  unfold tree_look
  simp only [hlen, bad_run n (by omega) f hl hc]
  by_cases h64 : f.length = 64
  case neg =>
    refine ⟨fun d hg => absurd hg.len h64, fun _ => ?_⟩
    rw [decide_eq_false h64]
    exact ⟨_, rfl⟩
  rw [decide_eq_true h64]
  simp only [Bool.not_true, cond_false, Option.bind_some]
  cases hb : f.any fun c => !checkP c with
  | true =>
    refine ⟨fun d hg => ?_, fun _ => ⟨_, rfl⟩⟩
    obtain ⟨c, hc, h⟩ := List.any_eq_true.1 hb
    obtain ⟨m, hm, rfl⟩ := mem_pg hc
    rw [hg.ok m ⟨hm.1, by omega⟩] at h
    cases h
  | false =>
    have hf : AllOk f := ⟨h64, fun m hm => by
      have := List.any_eq_false.1 hb (pg f m) (pg_mem ⟨hm.1, by omega⟩)
      simpa using this⟩
    simp only [cond_false]
    obtain ⟨r, hr⟩ := ((walk_inv hf 65 1) 0 key0 none 0 [] (by omega) QOk.nil).2 (by simp)
    replace hr : walkP f 65 0 1 key0 none 0 [] = some r := hr
    have htw := walkN hf 65 n (by omega) 0 1 key0 0 [] r (by omega) QOk.nil (by omega) hr
    rw [show (Key.mk 0 0) = key0 from rfl, htw]
    simp only [Option.bind_some]
    have hrun := rest_run n f hl r.2.2 r.2.1 n f 0 rfl (Nat.zero_le _) (by omega)
    rw [show ((0 : Nat) : Int) = 0 from rfl] at hrun
    have hall := allFrom_iff (p := fun j c => mget false r.2.2 (j : Int) || decide (Content.kind c = 0)) f 0
    constructor
    · intro d hg
      have hw := walk_full (f := f) d 65 1 (by have := hg.deep; omega) (by omega) 0 key0 none 0 [] hg.tree hg.nodup (fun x hx => rfl) (by simp) (Or.inl rfl)
      replace hw : walkP f 65 0 1 key0 none 0 [] = some (true, 1 + (d : Int) - 1, marks (pgs f d 0) []) := hw
      rw [hr] at hw
      cases Option.some.inj hw
      simp only [Bool.not_true, cond_false]
      rw [hrun, hall.2 fun j x hx => ?_]
      · show some (true, f, 1 + (d : Int) - 1, marks (pgs f d 0) []) = _
        rw [show 1 + (d : Int) - 1 = d by omega]
      · simp only [Nat.zero_add, mget_marks (show ∀ p ∈ ([] : Met), p.2 = true by simp)]
        have hj : j < f.length := (List.getElem?_eq_some_iff.1 hx).1
        by_cases hm : (j : Int) ∈ pgs f d 0
        · rw [decide_eq_true hm]; rfl
        · have := hg.rest (j : Int) ⟨by omega, by omega⟩ hm
          rw [pg_nat hx] at this
          rw [decide_eq_true this, Bool.or_true]
    · intro hng
      obtain ⟨b, w, q⟩ := r
      cases b with
      | false => exact ⟨_, rfl⟩
      | true =>
        simp only [Bool.not_true, cond_false]
        rw [hrun]
        obtain ⟨d, d1, d2, d3, d4, d5⟩ := walk_sound hf 65 1 (by omega) 0 key0 none 0 [] w q (by omega) QOk.nil hr
        have hq := ((walk_inv hf 65 1) 0 key0 none 0 [] (by omega) QOk.nil).1 _ hr
        cases hall' : allFrom (fun j c => mget false q (j : Int) || decide (Content.kind c = 0)) 0 f with
        | false => exact ⟨_, rfl⟩
        | true =>
          refine absurd ⟨d, hf.1, hf.2, d2, ?_, fun m hm hnm => ?_⟩ hng
          · have := hq.1.nodup
            simp only [d5, marks_fst, List.map_nil, List.append_nil] at this
            exact (List.reverse_perm _).nodup_iff.1 this
          · have hi : m.toNat < f.length := by omega
            have := (hall.1 hall') m.toNat f[m.toNat] (get_some hi)
            have em : ((m.toNat : Nat) : Int) = m := by omega
            rw [Nat.zero_add, em, d5, mget_marks (by simp), decide_eq_false hnm] at this
            have e2 : pg f m = f[m.toNat] := (congrArg (pg f) em.symm).trans (pg_nat (get_some hi))
            rw [e2]
            simpa [mget] using this
theorem check_good (n : Nat) (hn : 2000 ≤ n) {f : List Content} {d : Nat} (hg : Good f d) : tree_Check n ⟨f⟩ = some 0 := by
  have hc : ∀ c ∈ f, Fine c := fun c hc => by obtain ⟨m, hm, rfl⟩ := mem_pg hc; exact fine_check (hg.ok m ⟨hm.1, by have := hg.len; omega⟩)
  unfold tree_Check
  rw [(look_eq n hn f (by have := hg.len; omega) hc).1 d hg]; rfl
theorem check_bad (n : Nat) (hn : 2000 ≤ n) {f : List Content} (hl : f.length ≤ 1000) (hc : ∀ c ∈ f, Fine c) (hg : ¬ ∃ d, Good f d) : tree_Check n ⟨f⟩ = some 230 := by
  obtain ⟨x, h⟩ := (look_eq n hn f hl hc).2 hg
  unfold tree_Check
  rw [h]; rfl
theorem mkeys_fst : ∀ {q : Met}, (q.map Prod.fst).Nodup → mkeys q = q.map Prod.fst
  | [], _ => rfl
  | p :: r, h => by
    obtain ⟨h1, h2⟩ := List.nodup_cons.1 h
    rw [mkeys, mkeys_fst h2, List.map_cons, List.filter_eq_self.2 fun x hx => by
      have : x ≠ p.1 := fun e => h1 (e ▸ hx)
      simp [this]]
theorem good_fine {f : List Content} {d : Nat} (hg : Good f d) : ∀ c ∈ f, Fine c := fun c hc => by obtain ⟨m, hm, rfl⟩ := mem_pg hc; exact fine_check (hg.ok m ⟨hm.1, by have := hg.len; omega⟩)
theorem free_good (n : Nat) (hn : 2000 ≤ n) {f : List Content} {d : Nat} (hg : Good f d) : tree_Free n ⟨f⟩ = some (64 - ((pgs f d 0).length : Int)) := by
  unfold tree_Free
  rw [(look_eq n hn f (by have := hg.len; omega) (good_fine hg)).1 d hg]
  have h1 : mkeys (marks (pgs f d 0) []) = (pgs f d 0).reverse := by
    rw [mkeys_fst (by rw [marks_fst, List.map_nil, List.append_nil]; exact (List.reverse_perm _).nodup_iff.2 hg.nodup), marks_fst]; simp
  simp only [Option.bind_some, h1, List.length_reverse, Bool.not_true, cond_false]
  have := nodup_len hg.nodup fun x hx => (sub_in hg.tree x hx).1
  rw [wrap_in (by omega)]
theorem depth_good (n : Nat) (hn : 2000 ≤ n) {f : List Content} {d : Nat} (hg : Good f d) : tree_Depth n ⟨f⟩ = some (d : Int) := by
  unfold tree_Depth
  rw [(look_eq n hn f (by have := hg.len; omega) (good_fine hg)).1 d hg]; rfl
theorem free_bad (n : Nat) (hn : 2000 ≤ n) {f : List Content} (hl : f.length ≤ 1000) (hc : ∀ c ∈ f, Fine c) (hg : ¬ ∃ d, Good f d) : tree_Free n ⟨f⟩ = some 0 := by
  obtain ⟨x, h⟩ := (look_eq n hn f hl hc).2 hg
  unfold tree_Free
  rw [h]; rfl
theorem depth_bad (n : Nat) (hn : 2000 ≤ n) {f : List Content} (hl : f.length ≤ 1000) (hc : ∀ c ∈ f, Fine c) (hg : ¬ ∃ d, Good f d) : tree_Depth n ⟨f⟩ = some 0 := by
  obtain ⟨x, h⟩ := (look_eq n hn f hl hc).2 hg
  unfold tree_Depth
  rw [h]; rfl
end Go.Proofs.YtlcmdgpjiendmaaGreat
namespace Go.Proofs.YtlcmdgpjiendmaaGreat
open Go.Bur
set_option linter.unusedSimpArgs false
set_option linter.unusedVariables false
set_option maxRecDepth 100000
theorem ltK_false {a b : Key} : ltK a b = false ↔ ¬ (a.table < b.table ∨ (a.table = b.table ∧ a.id < b.id)) := by rw [← Bool.not_eq_true, ltK_iff]
theorem lt_le {a b c : Key} (h : ltK a b = true) (h2 : ltK c b = false) : ltK a c = true := by
  rw [ltK_iff] at h ⊢; rw [ltK_false] at h2; omega
theorem le_le {a b c : Key} (h : ltK b a = false) (h2 : ltK c b = false) : ltK c a = false := by
  rw [ltK_false] at h h2 ⊢; omega
theorem lt_asymm {a b : Key} (h : ltK a b = true) : ltK b a = false := by
  rw [ltK_iff] at h; rw [ltK_false]; omega
theorem lt_ne {a b : Key} (h : ltK a b = true) : a ≠ b := fun e => by rw [e, ltK_irrefl] at h; cases h
theorem within_iff {k lo : Key} {hi : Option Key} : within k lo hi = true ↔ ltK k lo = false ∧ ∀ h, hi = some h → ltK k h = true := by
  unfold within
  cases hi with
  | none => simp
  | some h => simp
theorem rcompare_eq (n : Nat) (a b : Key) : ref05_Compare n a b = some (cmpK a b) := by
  unfold ref05_Compare
  rw [key_eqb]
  by_cases h : a = b
  · subst h; rw [decide_eq_true rfl]; simp [cmpK, cmpI]
  · rw [decide_eq_false h, cond_false]
    simp only [jn]
    have hne : a.table ≠ b.table ∨ a.id ≠ b.id := by
      by_cases h1 : a.table = b.table
      · right; intro h2; obtain ⟨a1, a2⟩ := a; obtain ⟨b1, b2⟩ := b; simp only at h1 h2; subst h1; subst h2; exact h rfl
      · exact Or.inl h1
    unfold cmpK cmpI
    by_cases h1 : a.table < b.table
    · rw [decide_eq_true h1]; simp [h1]
    · rw [decide_eq_false h1, cond_false, ibeq]
      by_cases h2 : a.table = b.table
      · rw [decide_eq_true h2, cond_true]
        by_cases h3 : a.id < b.id
        · rw [decide_eq_true h3]; simp [h2, h3]
        · rw [decide_eq_false h3]
          have : a.id > b.id := by rcases hne with h | h; exact absurd h2 h; omega
          simp [h2, h3, this]
      · rw [decide_eq_false h2]
        have : a.table > b.table := by omega
        simp [h1, this]
theorem kids_cut {S : Int → Key → Option Key → Prop} {hi : Option Key} {lo : Key} {l1 l2 : List Kid} {x : Kid} : kidsOk S hi lo (l1 ++ x :: l2) ↔
    (l1 = [] → S x.page lo (nxt hi l2)) ∧ (l1 ≠ [] → S x.page x.least (nxt hi l2)) ∧ (l1 ≠ [] → kidsOk S (some x.least) lo l1) ∧ (∀ y t, l2 = y :: t → kidsOk S hi y.least l2) := by
  by_cases h : l1 = []
  · subst h
    rw [List.nil_append, kidsOk_cons]
    simp
  · rw [kidsOk_app h, kidsOk_cons]
    simp [h]
    exact ⟨fun ⟨a, b, c⟩ => ⟨b, a, c⟩, fun ⟨a, b, c⟩ => ⟨b, a, c⟩⟩
def RowsIn (l : List Row) (lo : Key) (hi : Option Key) : Prop := Srt l ∧ ∀ r ∈ l, within r.key lo hi = true
theorem kids_rows {S : Int → Key → Option Key → Prop} {g : Int → List Row} (hS : ∀ p a b, S p a b → RowsIn (g p) a b) {hi : Option Key} : ∀ {l : List Kid} {lo : Key}, kidsOk S hi lo l → (∀ k ∈ l.tail, within k.least lo hi = true) → l.Pairwise (fun a b => ltK a.least b.least = true) →
    RowsIn (l.flatMap fun k => g k.page) lo hi
  | [], lo, _, _, _ => ⟨List.Pairwise.nil, by simp⟩
  | [k], lo, h, _, _ => by
    rw [List.flatMap_cons, List.flatMap_nil, List.append_nil]; exact hS _ _ _ h
  | k :: k2 :: t, lo, h, hw, hr => by
    obtain ⟨a1, a2⟩ := hS _ _ _ h.1
    obtain ⟨r1, r2⟩ := List.pairwise_cons.1 hr
    have hk2 := within_iff.1 (hw k2 (List.mem_cons_self ..))
    obtain ⟨b1, b2⟩ := kids_rows hS h.2 (fun x hx => within_iff.2 ⟨lt_asymm ((List.pairwise_cons.1 r2).1 x hx), (within_iff.1 (hw x (List.mem_cons_of_mem _ hx))).2⟩) r2
    rw [List.flatMap_cons]
    refine ⟨List.pairwise_append.2 ⟨a1, b1, fun x hx y hy => ?_⟩, fun r hr => ?_⟩
    · exact lt_le ((within_iff.1 (a2 x hx)).2 _ rfl) (within_iff.1 (b2 y hy)).1
    · rcases List.mem_append.1 hr with hr | hr
      · have h1 := within_iff.1 (a2 r hr)
        exact within_iff.2 ⟨h1.1, fun h e => ltK_trans (h1.2 _ rfl) (hk2.2 h e)⟩
      · have h1 := within_iff.1 (b2 r hr)
        exact within_iff.2 ⟨le_le hk2.1 h1.1, h1.2⟩
theorem sub_rows {f : List Content} : ∀ {d : Nat} {n : Int} {lo : Key} {hi : Option Key}, sub f d n lo hi → RowsIn (rws f d n) lo hi
  | 1, n, lo, hi, h => by
    obtain ⟨_, _, l, h3, h4, h5⟩ := h
    have e : rws f 1 n = l := by rw [rws, h3]; simp
    rw [e]; exact ⟨h4.srt, h5⟩
  | d + 2, n, lo, hi, h => by
    obtain ⟨_, _, l, h3, h4, h5, h6⟩ := h
    have e : rws f (d + 2) n = l.flatMap fun k => rws f (d + 1) k.page := by rw [rws, h3]; rfl
    rw [e]; exact kids_rows (fun p a b hs => sub_rows hs) h6 h5 h4.rise
def kidI (l : List Kid) (k : Key) : Nat := (l.tail.takeWhile fun y => !ltK k y.least).length
theorem kid_cut' (k : Key) : ∀ (t : List Kid) (a : Kid), ∃ l1 x l2, a :: t = l1 ++ x :: l2 ∧ l1.length = (t.takeWhile fun y => !ltK k y.least).length ∧ (l1 ≠ [] → ltK k x.least = false) ∧ ∀ y t', l2 = y :: t' → ltK k y.least = true
  | [], a => ⟨[], a, [], rfl, rfl, fun h => absurd rfl h, fun y t' h => by cases h⟩
  | b :: t, a => by
    cases hb : ltK k b.least with
    | true => exact ⟨[], a, b :: t, rfl, by simp [List.takeWhile_cons, hb], fun h => absurd rfl h, fun y t' h => by cases h; exact hb⟩
    | false =>
      obtain ⟨l1, x, l2, h1, h2, h3, h4⟩ := kid_cut' k t b
      refine ⟨a :: l1, x, l2, by rw [h1]; rfl, by simp [List.takeWhile_cons, hb, h2], fun _ => ?_, h4⟩
      by_cases h : l1 = []
      · subst h; cases h1; exact hb
      · exact h3 h
theorem kid_cut {l : List Kid} (h : l ≠ []) (k : Key) : ∃ l1 x l2, l = l1 ++ x :: l2 ∧ l1.length = kidI l k ∧ (l1 ≠ [] → ltK k x.least = false) ∧ ∀ y t', l2 = y :: t' → ltK k y.least = true := by
  cases l with
  | nil => exact absurd rfl h
  | cons a t => exact kid_cut' k t a
theorem InnerOk.ne {l : List Kid} (h : InnerOk l) : l ≠ [] := fun e => by have := h.two; rw [e] at this; simp at this
theorem tw_le {α : Type} {p : α → Bool} : ∀ (l : List α), (l.takeWhile p).length ≤ l.length
  | [] => Nat.le_refl _
  | x :: t => by
    rw [List.takeWhile_cons]
    split
    · simp only [List.length_cons]; have := tw_le (p := p) t; omega
    · simp
theorem asked2_eq' (n : Nat) (hn : 1003 ≤ n) {l : List Kid} (h : InnerOk l) : page_asked n 2 [⟨2, [], l⟩] = some 0 := by
  have hc : checkP ⟨2, [], l⟩ = true := (check_iff _).2 (Or.inr (Or.inr ⟨l, rfl, h⟩))
  obtain ⟨n, rfl⟩ : ∃ m, n = m + 2 := ⟨n - 2, by omega⟩
  unfold page_asked page_asked_l1
  rw [loopF_succ]
  simp only [loopF, List.length_cons, List.length_nil]
  rw [show decide ((0 : Int) < ((0 + 1 : Nat) : Int)) = true from rfl]
  simp only [cond_true, idx_zero, List.getElem?_cons_zero, Option.bind_some]
  rw [check_eq _ (by omega) _ (fine_check hc), if_pos hc]
  simp only [Option.bind_some]
  rw [show ((0 : Int) != 0) = false from rfl, cond_false, show IntKind.wrap .i64 (0 + 1) = 1 from by rw [wrap_in (by omega)]; rfl]
  rw [show decide ((1 : Int) < ((0 + 1 : Nat) : Int)) = false from rfl, cond_false]
  unfold page_asked_l2
  rw [loopF_succ]
  simp only [List.length_cons, List.length_nil]
  rw [show decide ((0 : Int) < ((0 + 1 : Nat) : Int)) = true from rfl]
  simp only [cond_true, idx_zero, List.getElem?_cons_zero, Option.bind_some, jn]
  rw [show ((2 : Int) == 1) = false from rfl, cond_false, cond_false, show ((2 : Int) == 2) = true from rfl, cond_true, show ((2 : Int) != 2) = false from rfl, cond_false, show IntKind.wrap .i64 (0 + 1) = 1 from by rw [wrap_in (by omega)]; rfl]
  rw [loopF_succ]
  rfl
theorem pkid_eq (n : Nat) (hn : 1003 ≤ n) {l : List Kid} (h : InnerOk l) (k : Key) : page_Kid n ⟨2, [], l⟩ k = some ((kidI l k : Int), 0) := by
  have key : ∀ (m : Nat) (s t : List Kid) (i : Nat), s.drop i = t → i ≤ s.length → t.length < m → s.length ≤ 1000 → slices_IndexFunc_Kid_f97_l1 n m (s, k, (s.length : Int), (i : Int), ()) = some (if (t.takeWhile fun y => !ltK k y.least).length = t.length then -1 else ((i + (t.takeWhile fun y => !ltK k y.least).length : Nat) : Int)) := by
    intro m
    induction m with
    | zero => intro s t i _ _ h; omega
    | succ m ih =>
      intro s t i ht hi hk hs
      unfold slices_IndexFunc_Kid_f97_l1
      rw [loopF_succ]
      generalize hr : loopF _ m = r1
      replace hr : slices_IndexFunc_Kid_f97_l1 n m = r1 := hr
      simp only [hr] at ih
      cases t with
      | nil =>
        cases drop_end ht hi
        simp only [ge_dec (Nat.lt_irrefl _), cond_false]; rfl
      | cons x t =>
        obtain ⟨h1, h2, h3⟩ := drop_get ht
        have e : page_Kid_1 n x k = some (ltK k x.least) := by
          unfold page_Kid_1; rw [compare_eq n (by omega)]; simp only [Option.bind_some, cmpK_pos]
        simp only [lt_dec h3, cond_true, idx_nat, h1, Option.bind_some, e, List.takeWhile_cons]
        cases hb : ltK k x.least with
        | true => simp
        | false =>
          simp only [Bool.not_false, cond_false, if_true, wrap_succ (show i < 4611686018427387904 by omega), ih s t (i + 1) h2 (by omega) (by simp only [List.length_cons] at hk; omega) hs, List.length_cons, Nat.add_right_cancel_iff]
          by_cases hh : (t.takeWhile fun y => !ltK k y.least).length = t.length
          · rw [if_pos hh, if_pos hh]
          · rw [if_neg hh, if_neg hh]; congr 2; omega
  have h2 := h.two
  have h4 := h.four
  unfold page_Kid
  rw [asked2_eq' n hn h]
  simp only [Option.bind_some]
  rw [show ((0 : Int) != 0) = false from rfl, cond_false]
  have hsub := sub_ok (l := l) (a := 1) (b := l.length) (by omega) (Nat.le_refl _)
  rw [show ((1 : Nat) : Int) = 1 from rfl] at hsub
  have hsub' : Go.Bur.sub l 1 (l.length : Int) = some l.tail := by
    rw [hsub]; congr 1
    rw [List.take_of_length_le (by rw [List.length_drop]; omega), List.drop_one]
  rw [hsub']
  simp only [Option.bind_some]
  unfold slices_IndexFunc_Kid_f97
  have hl := key n l.tail l.tail 0 rfl (Nat.zero_le _) (by rw [List.length_tail]; omega) (by rw [List.length_tail]; omega)
  rw [show ((0 : Nat) : Int) = 0 from rfl] at hl
  rw [hl]
  simp only [Option.bind_some, Nat.zero_add]
  have hle := tw_le (p := fun y : Kid => !ltK k y.least) l.tail
  unfold kidI
  by_cases hh : (l.tail.takeWhile fun y => !ltK k y.least).length = l.tail.length
  · rw [if_pos hh, decide_eq_false (by omega), cond_false, wrap_in (by omega), hh, List.length_tail]; congr 2; omega
  · rw [if_neg hh, decide_eq_true (by omega), cond_true]
theorem kid_rows {f : List Content} {d : Nat} {lo : Key} {hi : Option Key} {l l1 l2 : List Kid} {x : Kid} {k : Key} (h4 : InnerOk l) (h5 : ∀ k ∈ l.tail, within k.least lo hi = true) (h6 : kidsOk (sub f d) hi lo l) (e : l = l1 ++ x :: l2) (c1 : l1 ≠ [] → ltK k x.least = false) (c2 : ∀ y t', l2 = y :: t' → ltK k y.least = true) (hk : ∀ h, hi = some h → ltK k h = true) :
    ∃ a, sub f d x.page a (nxt hi l2) ∧ (∀ h, nxt hi l2 = some h → ltK k h = true) ∧ (ltK k lo = false → ltK k a = false) ∧ (∀ r ∈ l1.flatMap fun k => rws f d k.page, ltK r.key k = true) ∧ (∀ r ∈ l2.flatMap fun k => rws f d k.page, ltK k r.key = true) := by
  subst e
  obtain ⟨g1, g2, g3, g4⟩ := kids_cut.1 h6
  have hr := h4.rise
  obtain ⟨q1, q2, q3⟩ := List.pairwise_append.1 hr
  have hlast : ∀ h, nxt hi l2 = some h → ltK k h = true := fun h e => by
    cases l2 with
    | nil => exact hk h e
    | cons y t => cases e; exact c2 y t rfl
  have hl1 : ∀ r ∈ l1.flatMap fun k => rws f d k.page, ltK r.key k = true := fun r hr => by
    by_cases hne : l1 = []
    · subst hne; simp at hr
    · have hin := kids_rows (g := fun p => rws f d p) (fun p a b hs => sub_rows hs) (g3 hne) (fun y hy => within_iff.2 ⟨(within_iff.1 (h5 y (by
        cases l1 with
        | nil => exact absurd rfl hne
        | cons z l1 => exact List.mem_append_left _ hy))).1, fun h e => by
          cases e
          exact q3 y (List.mem_of_mem_tail hy) x (List.mem_cons_self ..)⟩) q1
      exact lt_le ((within_iff.1 (hin.2 r hr)).2 _ rfl) (c1 hne)
  have hl2 : ∀ r ∈ l2.flatMap fun k => rws f d k.page, ltK k r.key = true := fun r hr => by
    cases l2 with
    | nil => simp at hr
    | cons y t =>
      have p2 := (List.pairwise_cons.1 q2).2
      have hin := kids_rows (g := fun p => rws f d p) (fun p a b hs => sub_rows hs) (g4 y t rfl) (fun z hz => within_iff.2 ⟨lt_asymm ((List.pairwise_cons.1 p2).1 z hz), (within_iff.1 (h5 z (by
        cases l1 with
        | nil => exact List.mem_cons_of_mem _ hz
        | cons w l1 => exact List.mem_append_right _ (List.mem_cons_of_mem _ (List.mem_cons_of_mem _ hz))))).2⟩) p2
      exact lt_le (c2 y t rfl) (within_iff.1 (hin.2 r hr)).1
  by_cases hne : l1 = []
  · exact ⟨lo, g1 hne, hlast, fun h => h, hl1, hl2⟩
  · exact ⟨x.least, g2 hne, hlast, fun _ => c1 hne, hl1, hl2⟩
theorem findK_mid {a b c : List Row} {k : Key} (h1 : ∀ r ∈ a, ltK r.key k = true) (h2 : ∀ r ∈ c, ltK k r.key = true) : findK (a ++ (b ++ c)) k = findK b k := by
  rw [findK_app, findK_app, findK_none (l := a) fun r hr => lt_ne (h1 r hr), findK_none (l := c) fun r hr => (lt_ne (h2 r hr)).symm]
  simp
theorem get_loop (N : Nat) (hN : 1003 ≤ N) {f : List Content} (hf : f.length = 64) (k : Key) (z : Row) : ∀ (d : Nat) (m : Nat) (n : Int) (lo : Key) (hi : Option Key), sub f d n lo hi → (∀ h, hi = some h → ltK k h = true) → d ≤ m → tree_get_l1 N m (⟨f⟩, k, z, pg f n, ()) = some (ofF (findK (rws f d n) k))
  | 0, _, _, _, _, h, _, _ => h.elim
  | 1, 0, _, _, _, _, _, h => by omega
  | d + 2, 0, _, _, _, _, _, h => by omega
  | 1, m + 1, n, lo, hi, h, hk, hm => by
    obtain ⟨h1, h2, l, h3, h4, h5⟩ := h
    have e : rws f 1 n = l := by rw [rws, h3]; simp
    have hck : checkP (pg f n) = true := (check_iff _).2 (Or.inr (Or.inl ⟨l, h3, h4⟩))
    have he : err1 (pg f n) = 0 := by unfold err1; rw [if_pos hck, h3]; rfl
    unfold tree_get_l1
    rw [loopF_succ]
    simp only [get_eq N hN _ (fine_check hck), getP, if_pos he, Option.bind_some]
    rw [show ((pg f n).kind == 2) = false from by rw [h3]; rfl, cond_false, e, h3]
  | d + 2, m + 1, n, lo, hi, h, hk, hm => by
    obtain ⟨h1, h2, l, h3, h4, h5, h6⟩ := h
    have e : rws f (d + 2) n = l.flatMap fun k => rws f (d + 1) k.page := by rw [rws, h3]; rfl
    obtain ⟨l1, x, l2, e1, e2, c1, c2⟩ := kid_cut h4.ne k
    obtain ⟨a, s1, s2, _, s3, s4⟩ := kid_rows h4 h5 h6 e1 c1 c2 hk
    have hx := sub_page s1
    unfold tree_get_l1
    rw [loopF_succ]
    generalize hr : loopF _ m = r1
    replace hr : tree_get_l1 N m = r1 := hr
    simp only [h3]
    rw [show ((2 : Int) == 2) = true from rfl, cond_true, pkid_eq N hN h4]
    simp only [Option.bind_some, idx_nat]
    rw [← e2, show l[l1.length]? = some x from by rw [e1]; simp]
    simp only [Option.bind_some]
    rw [show idx f x.page = some (pg f x.page) from idx_pg ⟨hx.1, by omega⟩]
    simp only [Option.bind_some]
    rw [← hr, get_loop N hN hf k z (d + 1) m x.page a _ s1 s2 (by omega), e, e1, List.flatMap_append, List.flatMap_cons, findK_mid s3 s4]
theorem get_good (N : Nat) (hN : 2000 ≤ N) {f : List Content} {d : Nat} (hg : Good f d) (k : Key) : tree_get N ⟨f⟩ k = some (ofF (findK (rws f d 0) k)) := by
  unfold tree_get
  rw [show idx f 0 = some (pg f 0) from idx_pg ⟨by omega, by have := hg.len; omega⟩]
  simp only [Option.bind_some]
  exact get_loop N (by omega) hg.len k _ d N 0 key0 none hg.tree (fun h e => by cases e) (by have := hg.deep; omega)
end Go.Proofs.YtlcmdgpjiendmaaGreat
namespace Go.Proofs.YtlcmdgpjiendmaaGreat
open Go.Bur
set_option linter.unusedSimpArgs false
set_option linter.unusedVariables false
set_option maxRecDepth 100000
theorem rows_few {f : List Content} : ∀ {d : Nat} {n : Int} {lo : Key} {hi : Option Key}, sub f d n lo hi → (rws f d n).length ≤ 4 * (pgs f d n).length
  | 1, n, lo, hi, h => by
    obtain ⟨_, _, l, h3, h4, h5⟩ := h
    have e : rws f 1 n = l := by rw [rws, h3]; simp
    have e2 : pgs f 1 n = [n] := by rw [pgs, h3]; rfl
    rw [e, e2]; have := h4.len; simpa using this
  | d + 2, n, lo, hi, h => by
    obtain ⟨_, _, l, h3, h4, h5, h6⟩ := h
    have e : rws f (d + 2) n = l.flatMap fun k => rws f (d + 1) k.page := by rw [rws, h3]; rfl
    have e2 : pgs f (d + 2) n = n :: l.flatMap fun k => pgs f (d + 1) k.page := by rw [pgs, h3]
    have key : ∀ (t : List Kid), (∀ k ∈ t, k ∈ l) → (t.flatMap fun k => rws f (d + 1) k.page).length ≤ 4 * (t.flatMap fun k => pgs f (d + 1) k.page).length := by
      intro t
      induction t with
      | nil => intro _; simp
      | cons k t ih =>
        intro ht
        obtain ⟨a, b, hs⟩ := kidsOk_all h6 k (ht k (List.mem_cons_self ..))
        have := rows_few hs
        have := ih fun x hx => ht x (List.mem_cons_of_mem _ hx)
        simp only [List.flatMap_cons, List.length_append]; omega
    have := key l fun k hk => hk
    rw [e, e2]; simp only [List.length_cons]; omega
theorem Good.rows {f : List Content} {d : Nat} (h : Good f d) : (rws f d 0).length ≤ 256 := by
  have h1 := rows_few h.tree
  have h2 := nodup_len h.nodup fun x hx => (sub_in h.tree x hx).1
  omega
abbrev YT := HL tabT [.st 4] → HL tabT [.sl (.st 2)] → Option (Nat × HL tabT [.sl (.st 2)])
def Yr : YT := fun y3 z4 => (app 40 z4.1 y3.1.rows).bind fun l5 => some (0, (l5, ()))
theorem yr_eq {c : Content} {acc : List Row} (h : acc.length + c.rows.length ≤ 1000000) : callY Yr 0 ((c, ()) : HL tabT [.st 4]) ((acc, ()) : HL tabT [.sl (.st 2)]) = some (0, ((acc ++ c.rows, ()) : HL tabT [.sl (.st 2)])) := by
  show (app 40 acc c.rows).bind _ = _
  rw [app_lt h (by decide)]; rfl
theorem leaves_l1 (N : Nat) (hN : 1003 ≤ N) {f : List Content} {d : Nat} {l : List Kid} (hl : l.length ≤ 1000)
    (self : Int × Forest × YT × Nat × (HL tabT [.sl (.st 2)]) × Forest × Unit → Option (Bool × YT × Nat × (HL tabT [.sl (.st 2)]) × Forest))
    (hs : ∀ k ∈ l, ∀ acc : List Row, acc.length + (rws f d k.page).length ≤ 1000000 → self (k.page, ⟨f⟩, Yr, 0, ((acc, ()) : HL tabT [.sl (.st 2)]), ⟨f⟩, ()) = some (true, Yr, 0, ((acc ++ rws f d k.page, ()) : HL tabT [.sl (.st 2)]), ⟨f⟩)) :
    ∀ (m : Nat) (t : List Kid) (i : Nat) (acc : List Row), l.drop i = t → i ≤ l.length → t.length < m → acc.length + (t.flatMap fun k => rws f d k.page).length ≤ 1000000 →
    tree_leaves_1_1_fyd0_c2_self_froc_l1 N self m (l, (l.length : Int), (i : Int), ⟨f⟩, Yr, 0, ((acc, ()) : HL tabT [.sl (.st 2)]), ()) = some (true, Yr, 0, ((acc ++ t.flatMap fun k => rws f d k.page, ()) : HL tabT [.sl (.st 2)]), ⟨f⟩) := by
  intro m
  induction m with
  | zero => intro t i acc _ _ h; omega
  | succ m ih =>
    intro t i acc ht hi hk ha
    unfold tree_leaves_1_1_fyd0_c2_self_froc_l1
    rw [loopF_succ]
    generalize hr : loopF _ m = r1
    replace hr : tree_leaves_1_1_fyd0_c2_self_froc_l1 N self m = r1 := hr
    simp only [hr] at ih
    cases t with
    | nil =>
      cases drop_end ht hi
      simp only [ge_dec (Nat.lt_irrefl _), cond_false, List.flatMap_nil, List.append_nil]
    | cons x t =>
      obtain ⟨h1, h2, h3⟩ := drop_get ht
      rw [List.flatMap_cons, List.length_append] at ha
      simp only [lt_dec h3, cond_true, idx_nat, h1, Option.bind_some, hs x (List.mem_of_getElem? h1) acc (by omega), Bool.not_true, cond_false, wrap_succ (show i < 4611686018427387904 by omega)]
      rw [ih t (i + 1) (acc ++ rws f d x.page) h2 (by omega) (by simp only [List.length_cons] at hk; omega) (by rw [List.length_append]; omega), List.flatMap_cons, List.append_assoc]
theorem leaves_go {f : List Content} (hf : f.length = 64) : ∀ (d N : Nat) (n : Int) (lo : Key) (hi : Option Key) (acc : List Row), sub f d n lo hi → d + 1003 ≤ N → acc.length + (rws f d n).length ≤ 1000000 →
    tree_leaves_1_1_fyd0_c2_self_froc N n ⟨f⟩ Yr 0 ((acc, ()) : HL tabT [.sl (.st 2)]) ⟨f⟩ = some (true, Yr, 0, ((acc ++ rws f d n, ()) : HL tabT [.sl (.st 2)]), ⟨f⟩)
  | 0, _, _, _, _, _, h, _, _ => h.elim
  | d + 1, 0, _, _, _, _, _, h, _ => by omega
  | 1, N + 1, n, lo, hi, acc, h, hN, ha => by
    obtain ⟨h1, h2, l, h3, h4, h5⟩ := h
    have e : rws f 1 n = l := by rw [rws, h3]; simp
    rw [e] at ha ⊢
    show tree_leaves_1_1_fyd0_c2_self_froc_b N (recF _ N) n ⟨f⟩ Yr 0 (acc, ()) ⟨f⟩ = _
    unfold tree_leaves_1_1_fyd0_c2_self_froc_b
    rw [show idx (Forest.mk f).pages n = some (pg f n) from idx_pg (f := f) ⟨h1.1, by omega⟩, h3]
    simp only [Option.bind_some]
    rw [show ((1 : Int) == 1) = true from rfl, cond_true, yr_eq (show acc.length + l.length ≤ 1000000 by omega)]
    rfl
  | d + 2, N + 1, n, lo, hi, acc, h, hN, ha => by
    obtain ⟨h1, h2, l, h3, h4, h5, h6⟩ := h
    have e : rws f (d + 2) n = l.flatMap fun k => rws f (d + 1) k.page := by rw [rws, h3]; rfl
    rw [e] at ha ⊢
    show tree_leaves_1_1_fyd0_c2_self_froc_b N (recF _ N) n ⟨f⟩ Yr 0 (acc, ()) ⟨f⟩ = _
    unfold tree_leaves_1_1_fyd0_c2_self_froc_b
    rw [show idx (Forest.mk f).pages n = some (pg f n) from idx_pg (f := f) ⟨h1.1, by omega⟩, h3]
    simp only [Option.bind_some]
    rw [show ((2 : Int) == 1) = false from rfl, cond_false]
    have h4' := h4.four
    exact leaves_l1 N (by omega) (d := d + 1) (by omega) _ (fun k hk acc' ha' => by
      obtain ⟨a, b, hs⟩ := kidsOk_all h6 k hk
      exact leaves_go hf (d + 1) N k.page a b acc' hs (by omega) ha') N l 0 acc rfl (Nat.zero_le _) (by omega) ha
theorem rows_good (N : Nat) (hN : 2000 ≤ N) {f : List Content} {d : Nat} (hg : Good f d) : tree_Rows N ⟨f⟩ = some (0, rws f d 0) := by
  have hd := hg.deep
  have hr := hg.rows
  unfold tree_Rows
  rw [check_good N hN hg]
  simp only [Option.bind_some]
  rw [show ((0 : Int) != 0) = false from rfl, cond_false]
  unfold tree_leaves tree_leaves_1_fyd0
  simp only [Option.bind_some]
  have := leaves_go hg.len d N 0 key0 none [] hg.tree (by omega) (by simp; omega)
  rw [show (fun (y3 : HL tabT [.st 4]) (z4 : HL tabT [.sl (.st 2)]) => (app 40 z4.1 y3.1.rows).bind fun l5 => some (0, ((l5, ()) : HL tabT [.sl (.st 2)]))) = Yr from rfl, this]
  rfl
theorem rows_bad (n : Nat) (hn : 2000 ≤ n) {f : List Content} (hl : f.length ≤ 1000) (hc : ∀ c ∈ f, Fine c) (hg : ¬ ∃ d, Good f d) : tree_Rows n ⟨f⟩ = some (230, []) := by
  unfold tree_Rows
  rw [check_bad n hn hl hc hg]; rfl
theorem rrows_l1 (N : Nat) (hN : 1003 ≤ N) {f : List Content} {d : Nat} {l : List Kid} (hl : l.length ≤ 1000)
    (self : Forest × Int × Unit → Option (List Row)) (hs : ∀ k ∈ l, self (⟨f⟩, k.page, ()) = some (rws f d k.page)) (c : Content) (hcl : c.kids = l) :
    ∀ (m : Nat) (t : List Kid) (i : Nat) (acc : List Row), l.drop i = t → i ≤ l.length → t.length < m → acc.length + (t.flatMap fun k => rws f d k.page).length ≤ 1000000 →
    ref13_Rows_l1 N self m ((i : Int), ⟨f⟩, c, acc, ()) = some (acc ++ t.flatMap fun k => rws f d k.page) := by
  intro m
  induction m with
  | zero => intro t i acc _ _ h; omega
  | succ m ih =>
    intro t i acc ht hi hk ha
    unfold ref13_Rows_l1
    rw [loopF_succ]
    generalize hr : loopF _ m = r1
    replace hr : ref13_Rows_l1 N self m = r1 := hr
    simp only [hr] at ih
    simp only [hcl]
    cases t with
    | nil =>
      cases drop_end ht hi
      simp only [ge_dec (Nat.lt_irrefl _), cond_false, List.flatMap_nil, List.append_nil]
    | cons x t =>
      obtain ⟨h1, h2, h3⟩ := drop_get ht
      rw [List.flatMap_cons, List.length_append] at ha
      simp only [lt_dec h3, cond_true, idx_nat, h1, Option.bind_some, hs x (List.mem_of_getElem? h1), app_lt (show acc.length + (rws f d x.page).length ≤ 1000000 by omega) (show 40 ≤ 1000 by omega), wrap_succ (show i < 4611686018427387904 by omega)]
      rw [ih t (i + 1) (acc ++ rws f d x.page) h2 (by omega) (by simp only [List.length_cons] at hk; omega) (by rw [List.length_append]; omega), List.flatMap_cons, List.append_assoc]
theorem rrows_go {f : List Content} (hf : f.length = 64) : ∀ (d N : Nat) (n : Int) (lo : Key) (hi : Option Key), sub f d n lo hi → d + 1003 ≤ N → (rws f d n).length ≤ 1000000 → ref13_Rows N ⟨f⟩ n = some (rws f d n)
  | 0, _, _, _, _, h, _, _ => h.elim
  | d + 1, 0, _, _, _, _, h, _ => by omega
  | 1, N + 1, n, lo, hi, h, hN, ha => by
    obtain ⟨h1, h2, l, h3, h4, h5⟩ := h
    have e : rws f 1 n = l := by rw [rws, h3]; simp
    rw [e] at ha ⊢
    show ref13_Rows_b N (recF _ N) ⟨f⟩ n = _
    unfold ref13_Rows_b
    rw [show idx (Forest.mk f).pages n = some (pg f n) from idx_pg (f := f) ⟨h1.1, by omega⟩, h3]
    simp only [Option.bind_some, app_lt (show ([] : List Row).length + l.length ≤ 1000000 by simpa using ha) (show 40 ≤ 1000 by omega)]
    have := rrows_l1 N (by omega) (f := f) (d := 0) (l := []) (by simp) (recF (fun n self x => ref13_Rows_b n self x.1 x.2.1) N) (by simp) ⟨1, l, []⟩ rfl N [] 0 ([] ++ l) rfl (Nat.zero_le _) (by simp; omega) (by simpa using ha)
    simp only [List.nil_append, List.flatMap_nil, List.append_nil] at this
    exact this
  | d + 2, N + 1, n, lo, hi, h, hN, ha => by
    obtain ⟨h1, h2, l, h3, h4, h5, h6⟩ := h
    have e : rws f (d + 2) n = l.flatMap fun k => rws f (d + 1) k.page := by rw [rws, h3]; rfl
    rw [e] at ha ⊢
    show ref13_Rows_b N (recF _ N) ⟨f⟩ n = _
    unfold ref13_Rows_b
    rw [show idx (Forest.mk f).pages n = some (pg f n) from idx_pg (f := f) ⟨h1.1, by omega⟩, h3]
    simp only [Option.bind_some, app_lt (show ([] : List Row).length + ([] : List Row).length ≤ 1000000 by simp) (show 40 ≤ 1000 by omega)]
    have h4' := h4.four
    have := rrows_l1 N (by omega) (f := f) (d := d + 1) (l := l) (by omega) (recF (fun n self x => ref13_Rows_b n self x.1 x.2.1) N) (fun k hk => by
      obtain ⟨a, b, hs⟩ := kidsOk_all h6 k hk
      have hk' : (rws f (d + 1) k.page).length ≤ 1000000 := by
        obtain ⟨u, v, e⟩ := List.append_of_mem hk
        rw [e] at ha
        simp only [List.flatMap_append, List.flatMap_cons, List.length_append] at ha
        omega
      exact rrows_go hf (d + 1) N k.page a b hs (by omega) hk') ⟨2, [], l⟩ rfl N l 0 [] rfl (Nat.zero_le _) (by omega) (by simpa using ha)
    simp only [List.nil_append] at this
    exact this
theorem rrows_good (N : Nat) (hN : 2000 ≤ N) {f : List Content} {d : Nat} (hg : Good f d) : ref13_Rows N ⟨f⟩ 0 = some (rws f d 0) :=
  rrows_go hg.len d N 0 key0 none hg.tree (by have := hg.deep; omega) (by have := hg.rows; omega)
def eqL {α : Type} (e : α → α → Bool) : List α → List α → Bool
  | [], [] => true
  | a :: s, b :: t => e a b && eqL e s t
  | _, _ => false
theorem eqL_len {α : Type} {e : α → α → Bool} : ∀ {a b : List α}, eqL e a b = true → a.length = b.length
  | [], [], _ => rfl
  | a :: s, b :: t, h => by
    simp only [eqL, Bool.and_eq_true] at h
    simp only [List.length_cons, eqL_len h.2]
  | [], _ :: _, h => by cases h
  | _ :: _, [], h => by cases h
theorem eqL_refl {α : Type} {e : α → α → Bool} (he : ∀ a, e a a = true) : ∀ (l : List α), eqL e l l = true
  | [] => rfl
  | a :: t => by simp only [eqL, he, eqL_refl he t, Bool.and_self]
theorem eqL_false {α : Type} {e : α → α → Bool} {a b : List α} (h : a.length ≠ b.length) : eqL e a b = false := by
  cases hh : eqL e a b with
  | false => rfl
  | true => exact absurd (eqL_len hh) h
theorem eq_loop {α T R : Type} {F : (T → Option R) → T → Option R} {e : α → α → Bool} {no yes : Option R} (a b : List α) (hab : a.length = b.length) (mk : Nat → T)
    (hF : ∀ r i x y, a[i]? = some x → b[i]? = some y → i < a.length → F r (mk i) = if e x y then r (mk (i + 1)) else no)
    (hE : ∀ r, F r (mk a.length) = yes) : ∀ (m i : Nat), i ≤ a.length → a.length - i < m → loopF F m (mk i) = if eqL e (a.drop i) (b.drop i) then yes else no := by
  intro m
  induction m with
  | zero => intro i _ h; omega
  | succ m ih =>
    intro i hi hm
    rw [loopF_succ]
    by_cases h : i < a.length
    · have h' : i < b.length := by omega
      rw [hF _ i _ _ (get_some h) (get_some h') h, drop_cons h, drop_cons h']
      simp only [eqL]
      by_cases hx : e a[i] b[i] = true
      · simp only [hx, if_true, Bool.true_and, ih (i + 1) (by omega) (by omega)]
      · rw [Bool.not_eq_true] at hx
        simp [hx]
    · obtain rfl : i = a.length := by omega
      rw [hE, drop_nil h, drop_nil (by omega)]; rfl
def sameC (a b : Content) : Bool := decide (a.kind = b.kind) && (eqL Row.eqb a.rows b.rows && eqL Kid.eqb a.kids b.kids)
theorem lenne {α β : Type} (a : List α) (b : List β) : ((a.length : Int) != (b.length : Int)) = !decide (a.length = b.length) := by
  rw [bne, ibeq]; congr 1; exact decide_eq_decide.2 (by omega)
theorem equalR' (n : Nat) (hn : 1003 ≤ n) (a b : List Row) (ha : a.length ≤ 1000) : slices_Equal_Row n a b = some (eqL Row.eqb a b) := by
  unfold slices_Equal_Row
  rw [lenne]
  by_cases h : a.length = b.length
  · rw [decide_eq_true h, Bool.not_true, cond_false]
    show slices_Equal_Row_l1 n n (a, b, (a.length : Int), ((0 : Nat) : Int), ()) = _
    unfold slices_Equal_Row_l1
    refine (eq_loop (e := Row.eqb) (no := some false) (yes := some true) a b h (fun i => (a, b, (a.length : Int), (i : Int), ())) (fun r i x y hx hy hi => ?_) (fun r => ?_) n 0 (Nat.zero_le _) (by omega)).trans ?_
    · simp only [lt_dec hi, cond_true, idx_nat, hx, hy, Option.bind_some, wrap_succ (show i < 4611686018427387904 by omega)]
      cases Row.eqb x y <;> simp
    · simp only [ge_dec (Nat.lt_irrefl _), cond_false]
    · simp only [List.drop_zero]; cases eqL Row.eqb a b <;> rfl
  · rw [decide_eq_false h, eqL_false h]; rfl
theorem equalK' (n : Nat) (hn : 1003 ≤ n) (a b : List Kid) (ha : a.length ≤ 1000) : slices_Equal_Kid n a b = some (eqL Kid.eqb a b) := by
  unfold slices_Equal_Kid
  rw [lenne]
  by_cases h : a.length = b.length
  · rw [decide_eq_true h, Bool.not_true, cond_false]
    show slices_Equal_Kid_l1 n n (a, b, (a.length : Int), ((0 : Nat) : Int), ()) = _
    unfold slices_Equal_Kid_l1
    refine (eq_loop (e := Kid.eqb) (no := some false) (yes := some true) a b h (fun i => (a, b, (a.length : Int), (i : Int), ())) (fun r i x y hx hy hi => ?_) (fun r => ?_) n 0 (Nat.zero_le _) (by omega)).trans ?_
    · simp only [lt_dec hi, cond_true, idx_nat, hx, hy, Option.bind_some, wrap_succ (show i < 4611686018427387904 by omega)]
      cases Kid.eqb x y <;> simp
    · simp only [ge_dec (Nat.lt_irrefl _), cond_false]
    · simp only [List.drop_zero]; cases eqL Kid.eqb a b <;> rfl
  · rw [decide_eq_false h, eqL_false h]; rfl
theorem csame_eq (n : Nat) (hn : 1003 ≤ n) (a b : Content) (ha : Fine a) : codec_Same n a b = some (sameC a b) := by
  unfold codec_Same sameC
  simp only [equalR' n hn _ _ ha.rows, equalK' n hn _ _ ha.kids, Option.bind_some, jn, ibeq]
  cases decide (a.kind = b.kind) <;> cases eqL Row.eqb a.rows b.rows <;> rfl
theorem rsame_eq (n : Nat) (hn : 1003 ≤ n) (a b : Content) (ha : Fine a) : ref06_Same n a b = some (sameC a b) := by
  have hr := ha.rows
  have hk := ha.kids
  unfold ref06_Same sameC
  simp only [jn, lenne]
  rw [show (a.kind != b.kind) = !decide (a.kind = b.kind) by rw [bne, ibeq]]
  cases decide (a.kind = b.kind) with
  | false => rfl
  | true =>
    simp only [Bool.not_true, cond_false, Bool.true_and]
    by_cases h1 : a.rows.length = b.rows.length
    case neg => rw [decide_eq_false h1, eqL_false h1]; rfl
    by_cases h2 : a.kids.length = b.kids.length
    case neg => rw [decide_eq_true h1, decide_eq_false h2, eqL_false h2, Bool.and_false]; rfl
    rw [decide_eq_true h1, decide_eq_true h2]
    simp only [Bool.not_true, cond_false]
    show ref06_Same_l1 n n ((a.rows.length : Int), ((0 : Nat) : Int), a, b, ()) = _
    unfold ref06_Same_l1
    refine (eq_loop (e := Row.eqb) (no := some false) (yes := some (eqL Kid.eqb a.kids b.kids)) a.rows b.rows h1 (fun i => ((a.rows.length : Int), (i : Int), a, b, ())) (fun r i x y hx hy hi => ?_) (fun r => ?_) n 0 (Nat.zero_le _) (by omega)).trans ?_
    · simp only [lt_dec hi, cond_true, idx_nat, hx, hy, Option.bind_some, wrap_succ (show i < 4611686018427387904 by omega)]
      cases Row.eqb x y <;> simp
    · simp only [ge_dec (Nat.lt_irrefl _), cond_false]
      show ref06_Same_l2 n n ((a.kids.length : Int), ((0 : Nat) : Int), a, b, ()) = _
      unfold ref06_Same_l2
      refine (eq_loop (e := Kid.eqb) (no := some false) (yes := some true) a.kids b.kids h2 (fun i => ((a.kids.length : Int), (i : Int), a, b, ())) (fun r i x y hx hy hi => ?_) (fun r => ?_) n 0 (Nat.zero_le _) (by omega)).trans ?_
      · simp only [lt_dec hi, cond_true, idx_nat, hx, hy, Option.bind_some, wrap_succ (show i < 4611686018427387904 by omega)]
        cases Kid.eqb x y <;> simp
      · simp only [ge_dec (Nat.lt_irrefl _), cond_false]
      · simp only [List.drop_zero]; cases eqL Kid.eqb a.kids b.kids <;> rfl
    · simp only [List.drop_zero]; cases eqL Row.eqb a.rows b.rows <;> rfl
theorem tsame_eq (n : Nat) (hn : 1003 ≤ n) (f g : List Content) (hl : f.length ≤ 1000) (hf : ∀ c ∈ f, Fine c) : tree_Same n ⟨f⟩ ⟨g⟩ = some (eqL sameC f g) := by
  suffices h : slices_EqualFunc_Content_f49 n f g = some (eqL sameC f g) by
    unfold tree_Same; rw [h]; rfl
  unfold slices_EqualFunc_Content_f49
  rw [lenne]
  by_cases h : f.length = g.length
  · rw [decide_eq_true h, Bool.not_true, cond_false]
    show slices_EqualFunc_Content_f49_l1 n n (g, f, (f.length : Int), ((0 : Nat) : Int), ()) = _
    unfold slices_EqualFunc_Content_f49_l1
    refine (eq_loop (e := sameC) (no := some false) (yes := some true) f g h (fun i => (g, f, (f.length : Int), (i : Int), ())) (fun r i x y hx hy hi => ?_) (fun r => ?_) n 0 (Nat.zero_le _) (by omega)).trans ?_
    · simp only [lt_dec hi, cond_true, idx_nat, hx, hy, Option.bind_some, csame_eq n hn x y (hf x (List.mem_of_getElem? hx)), wrap_succ (show i < 4611686018427387904 by omega)]
      cases sameC x y <;> simp
    · simp only [ge_dec (Nat.lt_irrefl _), cond_false]
    · simp only [List.drop_zero]; cases eqL sameC f g <;> rfl
  · rw [decide_eq_false h, eqL_false h]; rfl
theorem rtsame_eq (n : Nat) (hn : 1003 ≤ n) (f g : List Content) (hl : f.length ≤ 1000) (hf : ∀ c ∈ f, Fine c) : ref13_Same n ⟨f⟩ ⟨g⟩ = some (eqL sameC f g) := by
  unfold ref13_Same
  rw [lenne]
  by_cases h : f.length = g.length
  · rw [decide_eq_true h, Bool.not_true, cond_false]
    show ref13_Same_l1 n n (((0 : Nat) : Int), ⟨f⟩, ⟨g⟩, ()) = _
    unfold ref13_Same_l1
    refine (eq_loop (e := sameC) (no := some false) (yes := some true) f g h (fun i => ((i : Int), (⟨f⟩ : Forest), (⟨g⟩ : Forest), ())) (fun r i x y hx hy hi => ?_) (fun r => ?_) n 0 (Nat.zero_le _) (by omega)).trans ?_
    · simp only [lt_dec hi, cond_true, idx_nat, hx, hy, Option.bind_some, rsame_eq n hn x y (hf x (List.mem_of_getElem? hx)), wrap_succ (show i < 4611686018427387904 by omega)]
      cases sameC x y <;> simp
    · simp only [ge_dec (Nat.lt_irrefl _), cond_false]
    · simp only [List.drop_zero]; cases eqL sameC f g <;> rfl
  · rw [decide_eq_false h, eqL_false h]; rfl
theorem sameC_refl (c : Content) : sameC c c = true := by
  unfold sameC
  rw [decide_eq_true rfl, eqL_refl eqb_row, eqL_refl eqb_kid]; rfl
end Go.Proofs.YtlcmdgpjiendmaaGreat
namespace Go.Proofs.YtlcmdgpjiendmaaGreat
open Go.Bur
set_option linter.unusedSimpArgs false
set_option linter.unusedVariables false
set_option maxRecDepth 100000
def gsub (f : List Content) : Nat → Int → Key → Option Key → Prop
  | 0 => fun _ _ _ => False
  | m + 1 => fun n lo hi => (0 ≤ n ∧ n < 64) ∧ (n ≠ 0 → 2 ≤ sizeP (pg f n)) ∧ ((∃ l, pg f n = ⟨1, l, []⟩ ∧ LeafOk l ∧ ∀ r ∈ l, within r.key lo hi = true) ∨ ∃ l, pg f n = ⟨2, [], l⟩ ∧ InnerOk l ∧ (∀ k ∈ l.tail, within k.least lo hi = true) ∧ kidsOk (gsub f m) hi lo l)
def kidsP (F : Int → Key → Option Key → List Int) (hi : Option Key) (lo : Key) : Bool → List Kid → List Int → List Int
  | _, [], acc => acc
  | fst, k :: t, acc => if (!fst && !within k.least lo hi) = true then [] else if F k.page (if fst = true then lo else k.least) (nxt hi t) = [] then [] else kidsP F hi lo false t (acc ++ F k.page (if fst = true then lo else k.least) (nxt hi t))
def pagesQ (f : List Content) : Nat → Int → Key → Option Key → List Int
  | 0, _, _, _ => []
  | m + 1, n, lo, hi =>
    if (pg f n).kind = 0 ∨ (n ≠ 0 ∧ sizeP (pg f n) < 2) then []
    else if ((pg f n).rows.all fun r => within r.key lo hi) = false then []
    else kidsP (fun p a b => pagesQ f m p a b) hi lo true (pg f n).kids [n]
def dps (f : List Content) : Nat → Int → Int → List Int
  | 0, _, _ => []
  | m + 1, n, c => if (pg f n).kind = 2 then (pg f n).kids.flatMap fun k => dps f m k.page (c + 1) else [c]
theorem kidsP_sound {F : Int → Key → Option Key → List Int} {S : Int → Key → Option Key → Prop} {g : Int → List Int} (hF : ∀ p a b, (0 ≤ p ∧ p < 64) → F p a b ≠ [] → S p a b ∧ F p a b = g p) {hi : Option Key} {lo : Key} :
    ∀ (l : List Kid) (fst : Bool) (acc : List Int) (k : Kid) (t : List Kid), l = k :: t → (∀ x ∈ l, 0 ≤ x.page ∧ x.page < 64) → kidsP F hi lo fst l acc ≠ [] →
    kidsOk S hi (if fst = true then lo else k.least) l ∧ (fst = false → within k.least lo hi = true) ∧ (∀ x ∈ t, within x.least lo hi = true) ∧ kidsP F hi lo fst l acc = acc ++ l.flatMap fun k => g k.page
  | [], _, _, k, t, e, _, _ => by cases e
  | k0 :: t0, fst, acc, k, t, e, hl, h => by
    obtain ⟨rfl, rfl⟩ := List.cons.inj e.symm; clear e
    have hk := hl k (List.mem_cons_self ..)
    unfold kidsP at h ⊢
    split at h
    · exact absurd rfl h
    · rename_i hw
      by_cases hne : F k.page (if fst = true then lo else k.least) (nxt hi t) = []
      · rw [if_pos hne] at h; exact absurd rfl h
      · rw [if_neg hne] at h
        obtain ⟨h1, h2⟩ := hF k.page _ _ hk hne
        have hw' : fst = false → within k.least lo hi = true := fun e => by
          subst e
          cases hh : within k.least lo hi with
          | true => rfl
          | false => rw [hh] at hw; simp at hw
        rw [if_neg hw, if_neg hne]
        cases t with
        | nil =>
          unfold kidsP
          exact ⟨h1, hw', by simp, by rw [h2]; simp⟩
        | cons k2 t2 =>
          obtain ⟨e1, e2, e3, e4⟩ := kidsP_sound hF (k2 :: t2) false _ k2 t2 rfl (fun x hx => hl x (List.mem_cons_of_mem _ hx)) h
          refine ⟨⟨h1, e1⟩, hw', fun x hx => ?_, ?_⟩
          · rcases List.mem_cons.1 hx with rfl | hx
            · exact e2 rfl
            · exact e3 x hx
          · rw [e4, h2, List.flatMap_cons (x := k), List.append_assoc]
theorem kidsP_full {F : Int → Key → Option Key → List Int} {S : Int → Key → Option Key → Prop} {g : Int → List Int} (hF : ∀ p a b, S p a b → F p a b = g p ∧ g p ≠ []) {hi : Option Key} {lo : Key} :
    ∀ (l : List Kid) (fst : Bool) (acc : List Int) (k : Kid) (t : List Kid), l = k :: t → kidsOk S hi (if fst = true then lo else k.least) l → (fst = false → within k.least lo hi = true) → (∀ x ∈ t, within x.least lo hi = true) → kidsP F hi lo fst l acc = acc ++ l.flatMap fun k => g k.page
  | [], _, _, k, t, e, _, _, _ => by cases e
  | k0 :: t0, fst, acc, k, t, e, h1, h2, h3 => by
    obtain ⟨rfl, rfl⟩ := List.cons.inj e.symm; clear e
    obtain ⟨k1, k2⟩ := kidsOk_cons.1 h1
    obtain ⟨g1, g2⟩ := hF k.page _ _ k1
    unfold kidsP
    rw [if_neg (by cases fst with | true => simp | false => simp [h2 rfl]), if_neg (by rw [g1]; exact g2), g1]
    cases t with
    | nil => unfold kidsP; simp
    | cons k' t' => rw [kidsP_full hF (k' :: t') false _ k' t' rfl (k2 _ _ rfl) (fun _ => h3 k' (List.mem_cons_self ..)) (fun x hx => h3 x (List.mem_cons_of_mem _ hx)), List.flatMap_cons (x := k), List.append_assoc]
theorem gpgs_ne {f : List Content} {m : Nat} {n : Int} {lo : Key} {hi : Option Key} (h : gsub f m n lo hi) : pgs f m n ≠ [] := by
  cases m with
  | zero => exact h.elim
  | succ m => simp [pgs]
theorem pagesQ_sound {f : List Content} (hf : AllOk f) : ∀ (m : Nat) (n : Int) (lo : Key) (hi : Option Key), (0 ≤ n ∧ n < 64) → pagesQ f m n lo hi ≠ [] → gsub f m n lo hi ∧ pagesQ f m n lo hi = pgs f m n
  | 0, _, _, _, _, h => absurd rfl h
  | m + 1, n, lo, hi, hn, h => by
    unfold pagesQ at h ⊢
    split at h
    · exact absurd rfl h
    · rename_i hk
      split at h
      · exact absurd rfl h
      · rename_i hr
        have hsz : n ≠ 0 → 2 ≤ sizeP (pg f n) := fun e => by
          by_cases hs : sizeP (pg f n) < 2
          · exact absurd (Or.inr ⟨e, hs⟩) hk
          · omega
        have hrows : ∀ r ∈ (pg f n).rows, within r.key lo hi = true := by
          have : ((pg f n).rows.all fun r => within r.key lo hi) = true := by simpa using hr
          exact List.all_eq_true.1 this
        rw [if_neg hk, if_neg hr]
        rcases (check_iff _).1 (hf.2 n hn) with e | ⟨l, e, hl⟩ | ⟨l, e, hl⟩
        · rw [e] at hk; exact absurd (Or.inl rfl) hk
        · refine ⟨⟨hn, hsz, Or.inl ⟨l, e, hl, by rw [e] at hrows; exact hrows⟩⟩, ?_⟩
          rw [pgs, e]; rfl
        · obtain ⟨k, t, el⟩ : ∃ k t, l = k :: t := by
            match l, hl.two with
            | k :: t, _ => exact ⟨k, t, rfl⟩
          have hkids : (pg f n).kids = k :: t := by rw [e]; exact el
          obtain ⟨d4, d5, d6, d7⟩ := kidsP_sound (S := gsub f m) (g := fun p => pgs f m p) (fun p a b hp hne => pagesQ_sound hf m p a b hp hne) (pg f n).kids true [n] k t hkids (kids_rng hf hn) h
          refine ⟨⟨hn, hsz, Or.inr ⟨l, e, hl, by rw [el]; exact d6, by rw [hkids, ← el] at d4; exact d4⟩⟩, ?_⟩
          rw [d7, pgs]; rfl
theorem pagesQ_full {f : List Content} : ∀ (m : Nat) (n : Int) (lo : Key) (hi : Option Key), gsub f m n lo hi → pagesQ f m n lo hi = pgs f m n
  | 0, _, _, _, h => h.elim
  | m + 1, n, lo, hi, h => by
    obtain ⟨g1, g2, h⟩ := h
    rcases h with ⟨l, g3, g4, g5⟩ | ⟨l, g3, g4, g5, g6⟩
    · have hnk : ¬ ((pg f n).kind = 0 ∨ (n ≠ 0 ∧ sizeP (pg f n) < 2)) := by
        rintro (h | ⟨h, h'⟩)
        · rw [g3] at h; cases h
        · have := g2 h; omega
      have hrows : ¬ ((pg f n).rows.all fun r => within r.key lo hi) = false := by
        rw [Bool.not_eq_false, List.all_eq_true, g3]; exact g5
      unfold pagesQ
      rw [if_neg hnk, if_neg hrows, pgs, g3]; rfl
    · have hnk : ¬ ((pg f n).kind = 0 ∨ (n ≠ 0 ∧ sizeP (pg f n) < 2)) := by
        rintro (h | ⟨h, h'⟩)
        · rw [g3] at h; cases h
        · have := g2 h; omega
      have hrows : ¬ ((pg f n).rows.all fun r => within r.key lo hi) = false := by
        rw [Bool.not_eq_false, List.all_eq_true, g3]; simp
      have hkids : (pg f n).kids = l := by rw [g3]
      obtain ⟨k, t, el⟩ : ∃ k t, l = k :: t := by
        match l, g4.two with
        | k :: t, _ => exact ⟨k, t, rfl⟩
      unfold pagesQ
      rw [if_neg hnk, if_neg hrows, hkids, kidsP_full (S := gsub f m) (g := fun p => pgs f m p) (fun p a b hs => ⟨pagesQ_full m p a b hs, gpgs_ne hs⟩) l true [n] k t el (by simpa using g6) (fun e => by cases e) (fun x hx => g5 x (by rw [el]; exact hx)), pgs, hkids]
      rfl
theorem gsub_in {f : List Content} : ∀ {m : Nat} {n : Int} {lo : Key} {hi : Option Key}, gsub f m n lo hi → ∀ x ∈ pgs f m n, 0 ≤ x ∧ x < 64
  | 0, _, _, _, h, _, _ => h.elim
  | m + 1, n, lo, hi, h, x, hx => by
    obtain ⟨g1, g2, h⟩ := h
    rcases List.mem_cons.1 hx with rfl | hx
    · exact g1
    · obtain ⟨k, hk, hx⟩ := List.mem_flatMap.1 hx
      rcases h with ⟨l, g3, g4, g5⟩ | ⟨l, g3, g4, g5, g6⟩
      · rw [g3] at hk; cases hk
      · rw [g3] at hk
        obtain ⟨a, b, hs⟩ := kidsOk_all g6 k hk
        exact gsub_in hs x hx
theorem gsub_len {f : List Content} : ∀ {m : Nat} {n : Int} {lo : Key} {hi : Option Key}, gsub f m n lo hi → 3 * (pgs f m n).length + 1 ≤ 4 ^ m
  | 0, _, _, _, h => h.elim
  | m + 1, n, lo, hi, h => by
    obtain ⟨g1, g2, h⟩ := h
    have h1 : 1 ≤ 4 ^ m := Nat.one_le_pow _ _ (by decide)
    rcases h with ⟨l, g3, g4, g5⟩ | ⟨l, g3, g4, g5, g6⟩
    · rw [pgs, g3, Nat.pow_succ]; simp only [List.flatMap_nil, List.length_cons, List.length_nil]; omega
    · have key : ∀ (t : List Kid), (∀ k ∈ t, k ∈ l) → 3 * (t.flatMap fun k => pgs f m k.page).length + t.length ≤ t.length * 4 ^ m := by
        intro t
        induction t with
        | nil => intro _; simp
        | cons k t ih =>
          intro ht
          obtain ⟨a, b, hs⟩ := kidsOk_all g6 k (ht k (List.mem_cons_self ..))
          have := gsub_len hs
          have := ih fun x hx => ht x (List.mem_cons_of_mem _ hx)
          simp only [List.flatMap_cons, List.length_append, List.length_cons, Nat.add_mul, Nat.one_mul]; omega
      have := key l fun k hk => hk
      have h4 := g4.four
      have h5 : (4 - l.length) * 1 ≤ (4 - l.length) * 4 ^ m := Nat.mul_le_mul_left _ h1
      have h6 : l.length * 4 ^ m + (4 - l.length) * 4 ^ m = 4 * 4 ^ m := by rw [← Nat.add_mul]; congr 1; omega
      have h2 := g4.two
      rw [pgs, g3, Nat.pow_succ]; simp only [List.length_cons]; omega
theorem gsub_dps {f : List Content} : ∀ {m : Nat} {n : Int} {lo : Key} {hi : Option Key} (c : Int), gsub f m n lo hi → (dps f m n c).length ≤ (pgs f m n).length ∧ dps f m n c ≠ []
  | 0, _, _, _, _, h => h.elim
  | m + 1, n, lo, hi, c, h => by
    obtain ⟨g1, g2, h⟩ := h
    rcases h with ⟨l, g3, g4, g5⟩ | ⟨l, g3, g4, g5, g6⟩
    · rw [pgs, dps, g3, if_neg (by simp)]; simp
    · rw [pgs, dps, g3, if_pos rfl]
      have key : ∀ (t : List Kid), (∀ k ∈ t, k ∈ l) → (t.flatMap fun k => dps f m k.page (c + 1)).length ≤ (t.flatMap fun k => pgs f m k.page).length := by
        intro t
        induction t with
        | nil => intro _; simp
        | cons k t ih =>
          intro ht
          obtain ⟨a, b, hs⟩ := kidsOk_all g6 k (ht k (List.mem_cons_self ..))
          have := (gsub_dps (c + 1) hs).1
          have := ih fun x hx => ht x (List.mem_cons_of_mem _ hx)
          simp only [List.flatMap_cons, List.length_append]; omega
      refine ⟨by have := key l fun k hk => hk; simp only [List.length_cons]; omega, ?_⟩
      obtain ⟨k, t, el⟩ : ∃ k t, l = k :: t := by
        match l, g4.two with
        | k :: t, _ => exact ⟨k, t, rfl⟩
      obtain ⟨a, b, hs⟩ := kidsOk_all g6 k (by rw [el]; exact List.mem_cons_self ..)
      rw [el, List.flatMap_cons]
      intro e
      exact (gsub_dps (c + 1) hs).2 (List.append_eq_nil_iff.1 e).1
theorem gsub_even {f : List Content} : ∀ {m : Nat} {n : Int} {lo : Key} {hi : Option Key} {c D : Int}, gsub f m n lo hi → (∀ x ∈ dps f m n c, x = D) → ∃ d : Nat, 1 ≤ d ∧ d ≤ m ∧ D = c + d - 1 ∧ sub f d n lo hi ∧ pgs f m n = pgs f d n
  | 0, _, _, _, _, _, h, _ => h.elim
  | m + 1, n, lo, hi, c, D, h, hd => by
    obtain ⟨g1, g2, h⟩ := h
    rcases h with ⟨l, g3, g4, g5⟩ | ⟨l, g3, g4, g5, g6⟩
    · refine ⟨1, Nat.le_refl _, by omega, ?_, ⟨g1, g2, l, g3, g4, g5⟩, ?_⟩
      · have := hd c (by rw [dps, g3, if_neg (by simp)]; simp)
        omega
      · rw [pgs, pgs, g3]; rfl
    · rw [dps, g3, if_pos rfl] at hd
      have key : ∀ (t : List Kid) (lo' : Key), (∀ k ∈ t, k ∈ l) → kidsOk (gsub f m) hi lo' t → t ≠ [] → ∃ d : Nat, 1 ≤ d ∧ d ≤ m ∧ D = (c + 1) + d - 1 ∧ kidsOk (sub f d) hi lo' t ∧ ∀ k ∈ t, pgs f m k.page = pgs f d k.page := by
        intro t
        induction t with
        | nil => intro _ _ _ h; exact absurd rfl h
        | cons k t ih =>
          intro lo' ht hk _
          obtain ⟨k1, k2⟩ := kidsOk_cons.1 hk
          obtain ⟨d, e1, e2, e3, e4, e5⟩ := gsub_even (c := c + 1) (D := D) k1 fun x hx => hd x (List.mem_flatMap.2 ⟨k, ht k (List.mem_cons_self ..), hx⟩)
          cases t with
          | nil => exact ⟨d, e1, e2, e3, e4, fun x hx => by cases List.mem_singleton.1 hx; exact e5⟩
          | cons k' t' =>
            obtain ⟨d', x1, x2, x3, x4, x5⟩ := ih k'.least (fun x hx => ht x (List.mem_cons_of_mem _ hx)) (k2 _ _ rfl) (by simp)
            obtain rfl : d = d' := by omega
            refine ⟨d, e1, e2, e3, ⟨e4, x4⟩, fun x hx => ?_⟩
            rcases List.mem_cons.1 hx with rfl | hx
            · exact e5
            · exact x5 x hx
      obtain ⟨d, e1, e2, e3, e4, e5⟩ := key l lo (fun k hk => hk) g6 g4.ne
      obtain ⟨d0, rfl⟩ : ∃ d0, d = d0 + 1 := ⟨d - 1, by omega⟩
      refine ⟨d0 + 2, by omega, by omega, by omega, ⟨g1, g2, l, g3, g4, g5, e4⟩, ?_⟩
      rw [pgs, pgs, g3]
      simp only
      rw [flatMap_ext fun k hk => e5 k hk]
theorem sub_gsub {f : List Content} : ∀ {d m : Nat} {n : Int} {lo : Key} {hi : Option Key} (c : Int), sub f d n lo hi → d ≤ m → gsub f m n lo hi ∧ pgs f m n = pgs f d n ∧ ∀ x ∈ dps f m n c, x = c + d - 1
  | d, 0, _, _, _, _, h, hm => by obtain rfl : d = 0 := by omega
                                  exact h.elim
  | 1, m + 1, n, lo, hi, c, h, hm => by
    obtain ⟨g1, g2, l, g3, g4, g5⟩ := h
    refine ⟨⟨g1, g2, Or.inl ⟨l, g3, g4, g5⟩⟩, by rw [pgs, pgs, g3]; rfl, fun x hx => ?_⟩
    rw [dps, g3, if_neg (by simp)] at hx
    have := List.mem_singleton.1 hx
    omega
  | d + 2, m + 1, n, lo, hi, c, h, hm => by
    obtain ⟨g1, g2, l, g3, g4, g5, g6⟩ := h
    have ih : ∀ k ∈ l, ∃ a b, sub f (d + 1) k.page a b := fun k hk => kidsOk_all g6 k hk
    refine ⟨⟨g1, g2, Or.inr ⟨l, g3, g4, g5, kidsOk_mono (fun k hk a b hs => (sub_gsub c hs (by omega)).1) g6⟩⟩, ?_, fun x hx => ?_⟩
    · rw [pgs, pgs, g3]
      simp only
      rw [flatMap_ext fun k hk => by obtain ⟨a, b, hs⟩ := ih k hk; exact (sub_gsub c hs (by omega : d + 1 ≤ m)).2.1]
    · rw [dps, g3, if_pos rfl] at hx
      obtain ⟨k, hk, hx⟩ := List.mem_flatMap.1 hx
      obtain ⟨a, b, hs⟩ := ih k hk
      have := (sub_gsub (c + 1) hs (by omega : d + 1 ≤ m)).2.2 x hx
      omega
end Go.Proofs.YtlcmdgpjiendmaaGreat
namespace Go.Proofs.YtlcmdgpjiendmaaGreat
open Go.Bur
set_option linter.unusedSimpArgs false
set_option linter.unusedVariables false
set_option maxRecDepth 100000
def BndIs (b : ref13_Bound) (lo : Key) (hi : Option Key) : Prop := b.least = lo ∧ hi = if b.ends = true then some b.next else none
theorem rcmp_ge {a b : Key} : decide (cmpK a b ≥ 0) = !ltK a b := ge_lt
theorem holds_eq (n : Nat) {b : ref13_Bound} {lo : Key} {hi : Option Key} (hb : BndIs b lo hi) (k : Key) : ref13_holds n b k = some (within k lo hi) := by
  obtain ⟨rfl, rfl⟩ := hb
  unfold ref13_holds within
  simp only [rcompare_eq, Option.bind_some, jn, rcmp_ge, ← ltK.eq_def]
  cases ltK k b.least with
  | true => rfl
  | false =>
    cases he : b.ends with
    | false => simp
    | true => simp
theorem below_eq (n : Nat) {b : ref13_Bound} {lo : Key} {hi : Option Key} (hb : BndIs b lo hi) {c : Content} {i : Nat} {x : Kid} {t : List Kid} (h : c.kids.drop i = x :: t) (hi' : i ≤ 1000) : ∃ b', ref13_below n b c (i : Int) = some b' ∧ BndIs b' (if (decide (i = 0)) = true then lo else x.least) (nxt hi t) := by
  obtain ⟨rfl, rfl⟩ := hb
  obtain ⟨h1, h2, h3⟩ := drop_get h
  unfold ref13_below
  simp only [jn, ref13_below_j1, ref13_below_j2, wrap_succ (show i < 4611686018427387904 by omega), idx_nat, h1, Option.bind_some]
  cases t with
  | nil =>
    have e : i + 1 = c.kids.length := drop_end h2 (by omega)
    simp only [ge_dec (show ¬ i + 1 < c.kids.length by omega), cond_false]
    by_cases h0 : i = 0
    · subst h0
      rw [decide_eq_false (show ¬ ((0 : Nat) : Int) > 0 by omega), cond_false]
      exact ⟨_, rfl, by simp, rfl⟩
    · rw [decide_eq_true (show ((i : Nat) : Int) > 0 by omega), cond_true]
      exact ⟨_, rfl, by simp [h0], rfl⟩
  | cons y t =>
    obtain ⟨g1, g2, g3⟩ := drop_get h2
    simp only [lt_dec g3, cond_true, g1, Option.bind_some]
    by_cases h0 : i = 0
    · subst h0
      rw [decide_eq_false (show ¬ ((0 : Nat) : Int) > 0 by omega), cond_false]
      exact ⟨_, rfl, by simp, rfl⟩
    · rw [decide_eq_true (show ((i : Nat) : Int) > 0 by omega), cond_true]
      exact ⟨_, rfl, by simp [h0], rfl⟩
theorem len0 {α : Type} (l : List α) : ((l.length : Int) == 0) = decide (l.length = 0) := beq0
theorem rpages_l2 (N : Nat) {f : List Content} {b : ref13_Bound} {lo : Key} {hi : Option Key} (hb : BndIs b lo hi) (most : Int) (hm : 0 < most ∧ most ≤ 100) (c : Content) (hc : c.kids.length ≤ 1000) (F : Int → Key → Option Key → List Int) (B : Nat) (hF : ∀ p a b, (F p a b).length ≤ B)
    (self : Forest × Int × ref13_Bound × Int × Unit → Option (List Int)) (hs : ∀ k ∈ c.kids, ∀ b' a h, BndIs b' a h → self (⟨f⟩, k.page, b', most - 1, ()) = some (F k.page a h)) :
    ∀ (m : Nat) (t : List Kid) (i : Nat) (acc : List Int), c.kids.drop i = t → i ≤ c.kids.length → t.length < m → acc.length + t.length * B ≤ 1000000 → ref13_Pages_l2 N self m (most, (i : Int), ⟨f⟩, b, c, acc, ()) = some (kidsP F hi lo (decide (i = 0)) t acc) := by
  intro m
  induction m with
  | zero => intro t i acc _ _ h; omega
  | succ m ih =>
    intro t i acc ht hi' hk ha
    unfold ref13_Pages_l2
    rw [loopF_succ]
    generalize hr : loopF _ m = r1
    replace hr : ref13_Pages_l2 N self m = r1 := hr
    simp only [hr] at ih
    cases t with
    | nil =>
      cases drop_end ht hi'
      simp only [ge_dec (Nat.lt_irrefl _), cond_false]; rfl
    | cons x t =>
      obtain ⟨h1, h2, h3⟩ := drop_get ht
      obtain ⟨b', e1, e2⟩ := below_eq N hb ht (by omega)
      have hlen := hF x.page (if (decide (i = 0)) = true then lo else x.least) (nxt hi t)
      simp only [List.length_cons, Nat.add_mul, Nat.one_mul] at ha
      have hgo : ((idx c.kids (i : Int)).bind fun x22 => (ref13_below N b c (i : Int)).bind fun y23 => (self (⟨f⟩, x22.page, y23, (IntKind.wrap .i64 (most - 1)), ())).bind fun y24 => cond ((y24.length : Int) == 0) (some ([] : List Int)) ((app 8 acc y24).bind fun l25 => r1 (most, (IntKind.wrap .i64 ((i : Int) + 1)), ⟨f⟩, b, c, l25, ()))) =
          some (if F x.page (if (decide (i = 0)) = true then lo else x.least) (nxt hi t) = [] then [] else kidsP F hi lo false t (acc ++ F x.page (if (decide (i = 0)) = true then lo else x.least) (nxt hi t))) := by
        simp only [idx_nat, h1, Option.bind_some, e1, wrap_in (show -9223372036854775808 ≤ most - 1 ∧ most - 1 ≤ 9223372036854775807 by omega), hs x (List.mem_of_getElem? h1) b' _ _ e2, len0, wrap_succ (show i < 4611686018427387904 by omega)]
        by_cases hn : F x.page (if (decide (i = 0)) = true then lo else x.least) (nxt hi t) = []
        · rw [if_pos hn, hn]; rfl
        · rw [if_neg hn, decide_eq_false (fun e => hn (List.eq_nil_of_length_eq_zero e)), cond_false, app_lt (by omega) (by decide)]
          simp only [Option.bind_some]
          have := ih t (i + 1) (acc ++ F x.page (if (decide (i = 0)) = true then lo else x.least) (nxt hi t)) h2 (by omega) (by simp only [List.length_cons] at hk; omega) (by rw [List.length_append]; omega)
          rw [decide_eq_false (by omega : ¬ i + 1 = 0)] at this
          exact this
      unfold kidsP
      simp only [lt_dec h3, cond_true, jn]
      by_cases h0 : i = 0
      · subst h0
        rw [decide_eq_false (show ¬ ((0 : Nat) : Int) > 0 by omega), cond_false, cond_false, hgo]
        simp
      · rw [decide_eq_true (show ((i : Nat) : Int) > 0 by omega), cond_true]
        simp only [idx_nat, h1, Option.bind_some, holds_eq N hb]
        simp only [idx_nat, h1, Option.bind_some] at hgo
        rw [hgo, decide_eq_false h0]
        cases within x.least lo hi <;> rfl
theorem rpages_l1 (N : Nat) {f : List Content} {b : ref13_Bound} {lo : Key} {hi : Option Key} (hb : BndIs b lo hi) (most : Int) (c : Content) (hc : c.rows.length ≤ 1000) (acc : List Int) (self : Forest × Int × ref13_Bound × Int × Unit → Option (List Int)) :
    ∀ (m : Nat) (t : List Row) (i : Nat), c.rows.drop i = t → i ≤ c.rows.length → t.length < m → ref13_Pages_l1 N self m (most, (i : Int), ⟨f⟩, b, c, acc, ()) = if (t.all fun r => within r.key lo hi) = false then some [] else ref13_Pages_l2 N self N (most, 0, ⟨f⟩, b, c, acc, ()) := by
  intro m
  induction m with
  | zero => intro t i _ _ h; omega
  | succ m ih =>
    intro t i ht hi' hk
    unfold ref13_Pages_l1
    rw [loopF_succ]
    generalize hr : loopF _ m = r1
    replace hr : ref13_Pages_l1 N self m = r1 := hr
    simp only [hr] at ih
    cases t with
    | nil =>
      cases drop_end ht hi'
      simp only [ge_dec (Nat.lt_irrefl _), cond_false]; simp
    | cons x t =>
      obtain ⟨h1, h2, h3⟩ := drop_get ht
      simp only [lt_dec h3, cond_true, idx_nat, h1, Option.bind_some, holds_eq N hb, List.all_cons, wrap_succ (show i < 4611686018427387904 by omega), ih t (i + 1) h2 (by omega) (by simp only [List.length_cons] at hk; omega)]
      by_cases hw : within x.key lo hi = true
      · simp [hw]
      · rw [Bool.not_eq_true] at hw; simp [hw]
theorem pagesQ_len {f : List Content} (hf : AllOk f) {m : Nat} (hm : m ≤ 8) {n : Int} {lo : Key} {hi : Option Key} (hn : 0 ≤ n ∧ n < 64) : (pagesQ f m n lo hi).length ≤ 21845 := by
  by_cases h : pagesQ f m n lo hi = []
  · rw [h]; simp
  · obtain ⟨h1, h2⟩ := pagesQ_sound hf m n lo hi hn h
    rw [h2]
    have := gsub_len h1
    have : 4 ^ m ≤ 4 ^ 8 := Nat.pow_le_pow_right (by decide) hm
    omega
theorem rpages_eq {f : List Content} (hf : AllOk f) : ∀ (m N : Nat), m ≤ 8 → m + 1004 ≤ N → ∀ (n : Int) (lo : Key) (hi : Option Key) (b : ref13_Bound), (0 ≤ n ∧ n < 64) → BndIs b lo hi → ref13_Pages N ⟨f⟩ n b (m : Int) = some (pagesQ f m n lo hi)
  | m, 0, _, h, _, _, _, _, _, _ => by omega
  | 0, N + 1, hm, hN, n, lo, hi, b, hn, hb => by
    show ref13_Pages_b N (recF _ N) ⟨f⟩ n b ((0 : Nat) : Int) = _
    unfold ref13_Pages_b
    rw [show idx (Forest.mk f).pages n = some (pg f n) from idx_pg (f := f) ⟨hn.1, by have := hf.1; omega⟩]
    simp only [Option.bind_some, jn]
    cases (pg f n).kind == 0 <;> rfl
  | m + 1, N + 1, hm, hN, n, lo, hi, b, hn, hb => by
    have hcp := hf.2 n hn
    have hfc := fine_check hcp
    show ref13_Pages_b N (recF (fun n self x => ref13_Pages_b n self x.1 x.2.1 x.2.2.1 x.2.2.2.1) N) ⟨f⟩ n b ((m + 1 : Nat) : Int) = _
    generalize hself : recF (fun n self x => ref13_Pages_b n self x.1 x.2.1 x.2.2.1 x.2.2.2.1) N = self
    have hs : ∀ k ∈ (pg f n).kids, ∀ b' a h, BndIs b' a h → self (⟨f⟩, k.page, b', ((m + 1 : Nat) : Int) - 1, ()) = some (pagesQ f m k.page a h) := fun k hk b' a h hb' => by
      rw [← hself, show ((m + 1 : Nat) : Int) - 1 = (m : Int) by omega]
      exact rpages_eq hf m N (by omega) (by omega) k.page a h b' (kids_rng hf hn k hk) hb'
    clear hself
    unfold ref13_Pages_b pagesQ
    rw [show idx (Forest.mk f).pages n = some (pg f n) from idx_pg (f := f) ⟨hn.1, by have := hf.1; omega⟩]
    simp only [Option.bind_some, jn, ieq0, ine0, rsize_eq N _ hfc, lt2]
    rw [decide_eq_false (show ¬ ((m + 1 : Nat) : Int) = 0 by omega)]
    simp only [cond_false]
    have hrun : ref13_Pages_l1 N self N (((m + 1 : Nat) : Int), 0, ⟨f⟩, b, pg f n, [n], ()) = some (if ((pg f n).rows.all fun r => within r.key lo hi) = false then [] else kidsP (fun p a b => pagesQ f m p a b) hi lo true (pg f n).kids [n]) := by
      refine (rpages_l1 N hb _ (pg f n) hfc.rows [n] self N (pg f n).rows 0 rfl (Nat.zero_le _) (by have := hfc.rows; omega)).trans ?_
      by_cases hw : ((pg f n).rows.all fun r => within r.key lo hi) = false
      · rw [if_pos hw, if_pos hw]
      · rw [if_neg hw, if_neg hw]
        have h4 : (pg f n).kids.length ≤ 4 := by
          rcases (check_iff _).1 hcp with e | ⟨l, e, hl⟩ | ⟨l, e, hl⟩
          · rw [e]; simp [cont0]
          · rw [e]; simp
          · rw [e]; exact hl.four
        have hB : ∀ p a b, ((fun p a b => if 0 ≤ p ∧ p < 64 then pagesQ f m p a b else []) p a b : List Int).length ≤ 21845 := fun p a b => by
          by_cases hp : 0 ≤ p ∧ p < 64
          · simp only [if_pos hp]; exact pagesQ_len hf (by omega) hp
          · simp only [if_neg hp]; simp
        have := rpages_l2 N hb (((m + 1 : Nat) : Int)) (by omega) (pg f n) hfc.kids (fun p a b => if 0 ≤ p ∧ p < 64 then pagesQ f m p a b else []) 21845 hB self (fun k hk b' a h hb' => by
          simp only [if_pos (kids_rng hf hn k hk)]; exact hs k hk b' a h hb') N (pg f n).kids 0 [n] rfl (Nat.zero_le _) (by omega) (by simp only [List.length_cons, List.length_nil]; have := Nat.mul_le_mul_right 21845 h4; omega)
        refine this.trans (congrArg some ?_)
        have hext : ∀ (l : List Kid) (fst : Bool) (acc : List Int), (∀ k ∈ l, 0 ≤ k.page ∧ k.page < 64) → kidsP (fun p a b => if 0 ≤ p ∧ p < 64 then pagesQ f m p a b else []) hi lo fst l acc = kidsP (fun p a b => pagesQ f m p a b) hi lo fst l acc := by
          intro l
          induction l with
          | nil => intro _ _ _; rfl
          | cons k t iht =>
            intro fst acc hk
            unfold kidsP
            simp only [if_pos (hk k (List.mem_cons_self ..)), iht _ _ fun x hx => hk x (List.mem_cons_of_mem _ hx)]
        exact hext _ _ _ (kids_rng hf hn)
    by_cases h0 : (pg f n).kind = 0
    · rw [decide_eq_true h0, if_pos (Or.inl h0)]; rfl
    · rw [decide_eq_false h0]
      by_cases hn0 : n = 0
      · rw [decide_eq_true hn0, if_neg (by rintro (h | h); exact h0 h; exact h.1 hn0)]
        exact hrun
      · rw [decide_eq_false hn0]
        by_cases h2 : sizeP (pg f n) < 2
        · rw [decide_eq_true h2, if_pos (Or.inr ⟨hn0, h2⟩)]; rfl
        · rw [decide_eq_false h2, if_neg (by rintro (h | h); exact h0 h; exact h2 h.2)]
          exact hrun
theorem rdepths_l1 (N : Nat) {f : List Content} {m' : Nat} (c0 : Int) (hc0 : 0 ≤ c0 ∧ c0 ≤ 100) (c : Content) (hc : c.kids.length ≤ 1000) (self : Forest × Int × Int × Unit → Option (List Int)) (hs : ∀ k ∈ c.kids, self (⟨f⟩, k.page, c0 + 1, ()) = some (dps f m' k.page (c0 + 1))) :
    ∀ (m : Nat) (t : List Kid) (i : Nat) (acc : List Int), c.kids.drop i = t → i ≤ c.kids.length → t.length < m → acc.length + (t.flatMap fun k => dps f m' k.page (c0 + 1)).length ≤ 1000000 → ref13_Depths_l1 N self m (c0, (i : Int), ⟨f⟩, c, acc, ()) = some (acc ++ t.flatMap fun k => dps f m' k.page (c0 + 1)) := by
  intro m
  induction m with
  | zero => intro t i acc _ _ h; omega
  | succ m ih =>
    intro t i acc ht hi hk ha
    unfold ref13_Depths_l1
    rw [loopF_succ]
    generalize hr : loopF _ m = r1
    replace hr : ref13_Depths_l1 N self m = r1 := hr
    simp only [hr] at ih
    cases t with
    | nil =>
      cases drop_end ht hi
      simp only [ge_dec (Nat.lt_irrefl _), cond_false, List.flatMap_nil, List.append_nil]
    | cons x t =>
      obtain ⟨h1, h2, h3⟩ := drop_get ht
      rw [List.flatMap_cons, List.length_append] at ha
      simp only [lt_dec h3, cond_true, idx_nat, h1, Option.bind_some, wrap_in (show -9223372036854775808 ≤ c0 + 1 ∧ c0 + 1 ≤ 9223372036854775807 by omega), hs x (List.mem_of_getElem? h1), app_lt (show acc.length + (dps f m' x.page (c0 + 1)).length ≤ 1000000 by omega) (show 8 ≤ 1000 by omega), wrap_succ (show i < 4611686018427387904 by omega)]
      rw [ih t (i + 1) (acc ++ dps f m' x.page (c0 + 1)) h2 (by omega) (by simp only [List.length_cons] at hk; omega) (by rw [List.length_append]; omega), List.flatMap_cons, List.append_assoc]
theorem rdepths_eq {f : List Content} (hf : AllOk f) : ∀ (m N : Nat), m ≤ 8 → m + 1004 ≤ N → ∀ (n : Int) (lo : Key) (hi : Option Key) (c : Int), gsub f m n lo hi → 0 ≤ c → c + m ≤ 9 → ref13_Depths N ⟨f⟩ n c = some (dps f m n c)
  | m, 0, _, h, _, _, _, _, _, _, _ => by omega
  | 0, N + 1, hm, hN, n, lo, hi, c, h, _, _ => h.elim
  | m + 1, N + 1, hm, hN, n, lo, hi, c, h, hc, hcm => by
    have hlen := (gsub_dps c h).1
    have hlen2 := gsub_len h
    have h48 : 4 ^ (m + 1) ≤ 4 ^ 8 := Nat.pow_le_pow_right (by decide) hm
    obtain ⟨g1, g2, hh⟩ := h
    show ref13_Depths_b N (recF (fun n self x => ref13_Depths_b n self x.1 x.2.1 x.2.2.1) N) ⟨f⟩ n c = _
    generalize hself : recF (fun n self x => ref13_Depths_b n self x.1 x.2.1 x.2.2.1) N = self
    have hi64 : idx (Forest.mk f).pages n = some (pg f n) := idx_pg (f := f) ⟨g1.1, by have := hf.1; omega⟩
    rcases hh with ⟨l, g3, g4, g5⟩ | ⟨l, g3, g4, g5, g6⟩
    · unfold ref13_Depths_b
      rw [hi64, dps, g3]; rfl
    · have hs : ∀ k ∈ (pg f n).kids, self (⟨f⟩, k.page, c + 1, ()) = some (dps f m k.page (c + 1)) := fun k hk => by
        rw [g3] at hk
        obtain ⟨a, b, hs⟩ := kidsOk_all g6 k hk
        rw [← hself]
        exact rdepths_eq hf m N (by omega) (by omega) k.page a b (c + 1) hs (by omega) (by omega)
      clear hself
      unfold ref13_Depths_b
      have h4 := g4.four
      have hkl : (pg f n).kids.length ≤ 1000 := by rw [g3]; simp only; omega
      have hr := rdepths_l1 N (m' := m) c (by omega) (pg f n) hkl self hs N (pg f n).kids 0 [] rfl (Nat.zero_le _) (by omega) (by rw [dps, g3, if_pos rfl] at hlen; rw [g3]; simp only [List.length_nil] at hlen ⊢; omega)
      rw [hi64]
      simp only [Option.bind_some, jn]
      rw [show ((pg f n).kind != 2) = false from by rw [g3]; rfl, cond_false, decide_eq_false (show ¬ c > 8 by omega), cond_false]
      refine (show ref13_Depths_l1 N self N (c, 0, ⟨f⟩, pg f n, [], ()) = _ from hr).trans ?_
      rw [dps, g3, if_pos rfl, List.nil_append]
def allN (P : Nat → Bool) (i len : Nat) : Bool := (List.range' i (len - i)).all P
theorem allN_iff {P : Nat → Bool} {i len : Nat} : allN P i len = true ↔ ∀ j, i ≤ j → j < len → P j = true := by
  unfold allN
  rw [List.all_eq_true]
  constructor
  · intro h j h1 h2
    exact h j (by rw [List.mem_range'_1]; omega)
  · intro h j hj
    rw [List.mem_range'_1] at hj
    exact h j hj.1 (by omega)
theorem loop_scan {T R : Type} {F : (T → Option R) → T → Option R} (len : Nat) (mk : Nat → T) (P : Nat → Bool) (no yes : Option R) (hF : ∀ r i, i < len → F r (mk i) = if P i = true then r (mk (i + 1)) else no) (hE : ∀ r, F r (mk len) = yes) :
    ∀ m i, i ≤ len → len - i < m → loopF F m (mk i) = if allN P i len = true then yes else no := by
  intro m
  induction m with
  | zero => intro i _ h; omega
  | succ m ih =>
    intro i hi hm
    rw [loopF_succ]
    by_cases h : i < len
    · rw [hF _ i h]
      by_cases hp : P i = true
      · rw [if_pos hp, ih (i + 1) (by omega) (by omega)]
        have : allN P i len = allN P (i + 1) len := by
          rw [Bool.eq_iff_iff, allN_iff, allN_iff]
          exact ⟨fun h j h1 h2 => h j (by omega) h2, fun h j h1 h2 => by
            by_cases e : j = i
            · rw [e]; exact hp
            · exact h j (by omega) h2⟩
        rw [this]
      · rw [if_neg hp, if_neg fun hh => hp (allN_iff.1 hh i (Nat.le_refl _) h)]
    · obtain rfl : i = len := by omega
      rw [hE, if_pos (allN_iff.2 fun j h1 h2 => by omega)]
def cntL (u : List Int) : List Int := (List.range 64).map fun (j : Nat) => ((u.count (j : Int) : Nat) : Int)
theorem cntL_len {u : List Int} : (cntL u).length = 64 := by simp [cntL]
theorem cntL_get {u : List Int} {j : Nat} (h : j < 64) : idx (cntL u) (j : Int) = some (u.count (j : Int) : Int) := by
  rw [idx_nat, cntL, List.getElem?_map, List.getElem?_range h]; rfl
theorem cntL_put {u : List Int} {x : Int} (hx : 0 ≤ x ∧ x < 64) : put (cntL u) x ((u.count x : Int) + 1) = some (cntL (u ++ [x])) := by
  obtain ⟨j, rfl⟩ : ∃ j : Nat, x = (j : Int) := ⟨x.toNat, by omega⟩
  rw [put_ok (by rw [cntL_len]; omega)]
  congr 1
  refine List.ext_getElem (by simp [cntL]) fun i h1 h2 => ?_
  rw [List.getElem_set]
  simp only [cntL, List.getElem_map, List.getElem_range, List.count_append, List.count_singleton]
  by_cases e : j = i
  · subst e; simp
  · rw [if_neg e]
    have : ((j : Int) == (i : Int)) = false := by rw [ibeq, decide_eq_false (by omega)]
    simp [this]
theorem right_l2 (N : Nat) (f : Forest) (l : List Int) (hl : ∀ x ∈ l, 0 ≤ x ∧ x < 64) (hlen : l.length ≤ 100000) : ∀ (m : Nat) (t u : List Int) (i : Nat), l = u ++ t → u.length = i → t.length < m → ref13_Right_l2 N m ((i : Int), f, l, cntL u, ()) = ref13_Right_l3 N N (0, f, cntL l, ()) := by
  intro m
  induction m with
  | zero => intro t u i _ _ h; omega
  | succ m ih =>
    intro t u i e hi hm
    unfold ref13_Right_l2
    rw [loopF_succ]
    generalize hr : loopF _ m = r1
    replace hr : ref13_Right_l2 N m = r1 := hr
    simp only [hr] at ih
    cases t with
    | nil =>
      rw [List.append_nil] at e; subst e; subst hi
      simp only [ge_dec (Nat.lt_irrefl _), cond_false]
    | cons x t =>
      have hx := hl x (by rw [e]; simp)
      have hget : idx l (i : Int) = some x := by rw [e, ← hi]; exact idx_app
      have hlt : i < l.length := by rw [e, ← hi]; simp
      obtain ⟨j, rfl⟩ : ∃ j : Nat, x = (j : Int) := ⟨x.toNat, by omega⟩
      have hcnt : u.count (j : Int) ≤ u.length := List.count_le_length
      simp only [lt_dec hlt, cond_true, hget, Option.bind_some, cntL_get (show j < 64 by omega)]
      rw [wrap_in (show -9223372036854775808 ≤ (u.count (j : Int) : Int) + 1 ∧ (u.count (j : Int) : Int) + 1 ≤ 9223372036854775807 by omega), cntL_put hx]
      simp only [Option.bind_some, wrap_succ (show i < 4611686018427387904 by omega)]
      exact ih t (u ++ [(j : Int)]) (i + 1) (by rw [e]; simp) (by simp [hi]) (by simp only [List.length_cons] at hm; omega)
theorem nodup_count {l : List Int} : l.Nodup ↔ ∀ x, l.count x ≤ 1 := List.nodup_iff_count
theorem right_iff (N : Nat) (hN : 30000 ≤ N) {f : List Content} (hl : f.length ≤ 1000) (hc : ∀ c ∈ f, Fine c) (hk : ∀ c ∈ f, Keys c) : (∀ d, Good f d → ref13_Right N ⟨f⟩ = some true) ∧ ((¬ ∃ d, Good f d) → ref13_Right N ⟨f⟩ = some false) := by
  unfold ref13_Right
  rw [show (((Forest.mk f).pages.length : Int) != 64) = !decide (f.length = 64) from by
    rw [bne, ibeq]; congr 1; exact decide_eq_decide.2 (by show (f.length : Int) = 64 ↔ _; omega)]
  by_cases h64 : f.length = 64
  case neg => rw [decide_eq_false h64]; exact ⟨fun d hg => absurd hg.len h64, fun _ => rfl⟩
  rw [decide_eq_true h64, Bool.not_true, cond_false]
  have e1 : ref13_Right_l1 N N (0, ⟨f⟩, ()) = if allN (fun i => checkP (pg f (i : Int))) 0 64 = true then ((ref13_Pages N ⟨f⟩ 0 (ref13_Bound.mk (Key.mk 0 0) (Key.mk 0 0) false) 8).bind fun y5 => cond ((y5.length : Int) == 0) (some false) (ref13_Right_l2 N N (0, ⟨f⟩, y5, (List.replicate 64 0), ()))) else some false := by
    show ref13_Right_l1 N N (((0 : Nat) : Int), ⟨f⟩, ()) = _
    unfold ref13_Right_l1
    refine loop_scan 64 (fun i => ((i : Int), (⟨f⟩ : Forest), ())) (fun i => checkP (pg f (i : Int))) _ _ (fun r i hi => ?_) (fun r => ?_) N 0 (by omega) (by omega)
    · have hm : pg f (i : Int) ∈ f := pg_mem ⟨by omega, by omega⟩
      simp only [show decide ((i : Int) < 64) = true from decide_eq_true (by omega), cond_true, show idx f (i : Int) = some (pg f (i : Int)) from idx_pg ⟨by omega, by omega⟩, Option.bind_some, right_eq N (by omega) _ (hc _ hm) (hk _ hm), wrap_succ (show i < 4611686018427387904 by omega)]
      cases checkP (pg f (i : Int)) <;> simp
    · rfl
  rw [e1]
  by_cases hall : allN (fun i => checkP (pg f (i : Int))) 0 64 = true
  case neg =>
    rw [if_neg hall]
    exact ⟨fun d hg => absurd (allN_iff.2 fun j _ hj => hg.ok (j : Int) ⟨by omega, by omega⟩) hall, fun _ => rfl⟩
  rw [if_pos hall]
  have hf : AllOk f := ⟨h64, fun n hn => by
    have := allN_iff.1 hall n.toNat (by omega) (by omega)
    rwa [show ((n.toNat : Nat) : Int) = n by omega] at this⟩
  rw [show (8 : Int) = ((8 : Nat) : Int) from rfl, rpages_eq hf 8 N (by omega) (by omega) 0 key0 none _ (by omega) ⟨rfl, rfl⟩]
  simp only [Option.bind_some, len0]
  by_cases hne : pagesQ f 8 0 key0 none = []
  · rw [hne]
    refine ⟨fun d hg => ?_, fun _ => rfl⟩
    have hs := (sub_gsub 1 hg.tree (show d ≤ 8 by have := hg.deep; omega)).1
    rw [pagesQ_full 8 0 key0 none hs] at hne
    exact absurd hne (gpgs_ne hs)
  obtain ⟨hs, hpq⟩ := pagesQ_sound hf 8 0 key0 none (by omega) hne
  rw [hpq, decide_eq_false (fun e => gpgs_ne hs (List.eq_nil_of_length_eq_zero e)), cond_false]
  have hpl := gsub_len hs
  rw [show (4 : Nat) ^ 8 = 65536 from rfl] at hpl
  have hin := gsub_in hs
  have e2 := right_l2 N ⟨f⟩ (pgs f 8 0) hin (by omega) N (pgs f 8 0) [] 0 rfl rfl (by omega)
  rw [show (List.replicate 64 (0 : Int)) = cntL [] from rfl]
  rw [show ref13_Right_l2 N N (0, ⟨f⟩, pgs f 8 0, cntL [], ()) = _ from e2]
  have hdep := rdepths_eq hf 8 N (by omega) (by omega) 0 key0 none 1 hs (by omega) (by omega)
  obtain ⟨hdl, hdn⟩ := gsub_dps 1 hs
  generalize hD : dps f 8 0 1 = D at hdep hdl hdn
  have e3 : ref13_Right_l3 N N (0, ⟨f⟩, cntL (pgs f 8 0), ()) = if allN (fun i => decide ((pgs f 8 0).count (i : Int) ≤ 1) && (!decide ((pgs f 8 0).count (i : Int) = 0) || decide ((pg f (i : Int)).kind = 0))) 0 64 = true then ref13_Right_l4 N N (1, D, ()) else some false := by
    show ref13_Right_l3 N N (((0 : Nat) : Int), ⟨f⟩, cntL (pgs f 8 0), ()) = _
    unfold ref13_Right_l3
    refine loop_scan 64 (fun i => ((i : Int), (⟨f⟩ : Forest), cntL (pgs f 8 0), ())) _ _ _ (fun r i hi => ?_) (fun r => ?_) N 0 (by omega) (by omega)
    · simp only [show decide ((i : Int) < 64) = true from decide_eq_true (by omega), cond_true, cntL_get hi, show idx f (i : Int) = some (pg f (i : Int)) from idx_pg ⟨by omega, by omega⟩, Option.bind_some, jn, wrap_succ (show i < 4611686018427387904 by omega), ine0, ieq0]
      rw [show decide (((pgs f 8 0).count (i : Int) : Int) > 1) = !decide ((pgs f 8 0).count (i : Int) ≤ 1) from by
        by_cases h : (pgs f 8 0).count (i : Int) ≤ 1
        · rw [decide_eq_true h, decide_eq_false (by omega)]; rfl
        · rw [decide_eq_false h, decide_eq_true (by omega)]; rfl]
      rw [show decide (((pgs f 8 0).count (i : Int) : Int) = 0) = decide ((pgs f 8 0).count (i : Int) = 0) from decide_eq_decide.2 (by omega)]
      cases decide ((pgs f 8 0).count (i : Int) ≤ 1) <;> cases decide ((pgs f 8 0).count (i : Int) = 0) <;> cases decide ((pg f (i : Int)).kind = 0) <;> rfl
    · simp only [show decide ((64 : Int) < 64) = false from rfl]
      show (ref13_Depths N ⟨f⟩ 0 1).bind _ = _
      rw [hdep]; rfl
  rw [e3]
  have hcond : allN (fun i => decide ((pgs f 8 0).count (i : Int) ≤ 1) && (!decide ((pgs f 8 0).count (i : Int) = 0) || decide ((pg f (i : Int)).kind = 0))) 0 64 = true ↔ (pgs f 8 0).Nodup ∧ ∀ n : Int, 0 ≤ n ∧ n < 64 → n ∉ pgs f 8 0 → (pg f n).kind = 0 := by
    rw [allN_iff]
    simp only [Bool.and_eq_true, Bool.or_eq_true, Bool.not_eq_true', decide_eq_true_eq, decide_eq_false_iff_not]
    constructor
    · intro h
      refine ⟨nodup_count.2 fun x => ?_, fun n hn hm => ?_⟩
      · by_cases hx : x ∈ pgs f 8 0
        · have hr := hin x hx
          have := (h x.toNat (by omega) (by omega)).1
          rwa [show ((x.toNat : Nat) : Int) = x by omega] at this
        · rw [List.count_eq_zero_of_not_mem hx]; omega
      · have := (h n.toNat (by omega) (by omega)).2
        rw [show ((n.toNat : Nat) : Int) = n by omega] at this
        exact this.resolve_left fun h => h (List.count_eq_zero_of_not_mem hm)
    · rintro ⟨h1, h2⟩ j _ hj
      refine ⟨nodup_count.1 h1 _, ?_⟩
      by_cases hx : (j : Int) ∈ pgs f 8 0
      · exact Or.inl fun e => by have := List.count_pos_iff.2 hx; omega
      · exact Or.inr (h2 _ ⟨by omega, by omega⟩ hx)
  by_cases hcc : allN (fun i => decide ((pgs f 8 0).count (i : Int) ≤ 1) && (!decide ((pgs f 8 0).count (i : Int) = 0) || decide ((pg f (i : Int)).kind = 0))) 0 64 = true
  case neg =>
    rw [if_neg hcc]
    refine ⟨fun d hg => absurd (hcond.2 ?_) hcc, fun _ => rfl⟩
    rw [(sub_gsub 1 hg.tree (show d ≤ 8 by have := hg.deep; omega)).2.1]
    exact ⟨hg.nodup, hg.rest⟩
  rw [if_pos hcc]
  obtain ⟨hnd, hrest⟩ := hcond.1 hcc
  have e4 : ref13_Right_l4 N N (1, D, ()) = if allN (fun i => D[i]? == D[0]?) 1 D.length = true then some true else some false := by
    show ref13_Right_l4 N N (((1 : Nat) : Int), D, ()) = _
    unfold ref13_Right_l4
    have hpos : 0 < D.length := List.length_pos_iff.2 hdn
    refine loop_scan D.length (fun i => ((i : Int), D, ())) _ _ _ (fun r i hi => ?_) (fun r => ?_) N 1 (by omega) (by omega)
    · simp only [lt_dec hi, cond_true, idx_nat, idx_zero, get_some hi, get_some hpos, Option.bind_some, wrap_succ (show i < 4611686018427387904 by omega)]
      rw [show (D[i] != D[0]) = !decide (D[i] = D[0]) from by rw [bne, ibeq]]
      by_cases h : D[i] = D[0]
      · simp [h]
      · simp [h]
    · simp only [ge_dec (Nat.lt_irrefl _), cond_false]
  rw [e4]
  by_cases hev : allN (fun i => D[i]? == D[0]?) 1 D.length = true
  · rw [if_pos hev]
    refine ⟨fun _ _ => rfl, fun hng => absurd ?_ hng⟩
    have hpos : 0 < D.length := List.length_pos_iff.2 hdn
    obtain ⟨d, d1, d2, d3, d4, d5⟩ := gsub_even (c := 1) (D := D[0]) hs fun x hx => by
      rw [hD] at hx
      obtain ⟨i, hi, rfl⟩ := List.mem_iff_getElem.1 hx
      by_cases h0 : i = 0
      · subst h0; rfl
      · have := allN_iff.1 hev i (by omega) hi
        rw [get_some hi, get_some hpos] at this
        simpa using this
    exact ⟨d, h64, hf.2, d4, d5 ▸ hnd, fun n hn hm => hrest n hn (by rw [d5]; exact hm)⟩
  · rw [if_neg hev]
    refine ⟨fun d hg => absurd (allN_iff.2 fun j hj1 hj2 => ?_) hev, fun _ => rfl⟩
    have hpos : 0 < D.length := List.length_pos_iff.2 hdn
    have hx := (sub_gsub 1 hg.tree (show d ≤ 8 by have := hg.deep; omega)).2.2
    rw [hD] at hx
    rw [get_some hj2, get_some hpos, hx _ (List.getElem_mem hj2), hx _ (List.getElem_mem hpos)]
    simp
theorem right_good (N : Nat) (hN : 30000 ≤ N) {f : List Content} {d : Nat} (hg : Good f d) (hk : ∀ c ∈ f, Keys c) : ref13_Right N ⟨f⟩ = some true :=
  (right_iff N hN (by have := hg.len; omega) (good_fine hg) hk).1 d hg
theorem right_bad (N : Nat) (hN : 30000 ≤ N) {f : List Content} (hl : f.length ≤ 1000) (hc : ∀ c ∈ f, Fine c) (hk : ∀ c ∈ f, Keys c) (hg : ¬ ∃ d, Good f d) : ref13_Right N ⟨f⟩ = some false :=
  (right_iff N hN hl hc hk).2 hg
end Go.Proofs.YtlcmdgpjiendmaaGreat
namespace Go.Proofs.YtlcmdgpjiendmaaGreat
open Go.Bur
set_option linter.unusedSimpArgs false
set_option linter.unusedVariables false
set_option maxRecDepth 100000
def insS (s : Sheet) : List Sheet → List Sheet
  | [] => [s]
  | x :: t => if s.page ≤ x.page then s :: x :: t else x :: insS s t
def srtS : List Sheet → List Sheet
  | [] => []
  | x :: t => insS x (srtS t)
theorem insS_perm (s : Sheet) : ∀ (l : List Sheet), (insS s l).Perm (s :: l)
  | [] => List.Perm.refl _
  | x :: t => by
    unfold insS
    split
    · exact List.Perm.refl _
    · exact ((insS_perm s t).cons x).trans (List.Perm.swap ..)
theorem srtS_perm : ∀ (l : List Sheet), (srtS l).Perm l
  | [] => List.Perm.refl _
  | x :: t => (insS_perm x _).trans ((srtS_perm t).cons x)
theorem insS_sorted (s : Sheet) : ∀ {l : List Sheet}, l.Pairwise (fun a b => a.page ≤ b.page) → (insS s l).Pairwise fun a b => a.page ≤ b.page
  | [], _ => by simp [insS]
  | x :: t, h => by
    obtain ⟨h1, h2⟩ := List.pairwise_cons.1 h
    unfold insS
    split
    · rename_i hs
      refine List.pairwise_cons.2 ⟨fun y hy => ?_, h⟩
      rcases List.mem_cons.1 hy with rfl | hy
      · exact hs
      · exact Int.le_trans hs (h1 y hy)
    · rename_i hs
      refine List.pairwise_cons.2 ⟨fun y hy => ?_, insS_sorted s h2⟩
      rcases List.mem_cons.1 ((insS_perm s t).mem_iff.1 hy) with rfl | hy
      · omega
      · exact h1 y hy
theorem srtS_sorted : ∀ (l : List Sheet), (srtS l).Pairwise fun a b => a.page ≤ b.page
  | [] => List.Pairwise.nil
  | x :: t => insS_sorted x (srtS_sorted t)
theorem cmpI_neg {a b : Int} : cmpI a b < 0 ↔ a < b := by
  unfold cmpI
  by_cases h : a < b
  · rw [if_pos h]; simp [h]
  · rw [if_neg h]
    by_cases h2 : a > b
    · rw [if_pos h2]; simp [h]
    · rw [if_neg h2]; simp [h]
theorem group1_eq (n : Nat) (x y : Sheet) : tree_change_group_1 n x y = some (cmpI x.page y.page) := by
  unfold tree_change_group_1; rw [compare_int]; rfl
theorem page_inj : ∀ {l : List Sheet}, (l.map (·.page)).Nodup → ∀ x ∈ l, ∀ y ∈ l, x.page = y.page → x = y
  | [], _, _, hx, _, _, _ => by cases hx
  | a :: t, h, x, hx, y, hy, e => by
    rw [List.map_cons] at h
    obtain ⟨h1, h2⟩ := List.nodup_cons.1 h
    rcases List.mem_cons.1 hx with rfl | hx
    · rcases List.mem_cons.1 hy with rfl | hy
      · rfl
      · exact absurd (List.mem_map.2 ⟨y, hy, e.symm⟩) h1
    · rename_i hxt
      rcases List.mem_cons.1 hy with hya | hy
      · subst hya; exact absurd (List.mem_map.2 ⟨x, by assumption, e⟩) h1
      · exact page_inj h2 x hx y hy e
theorem sortS_eq (n : Nat) {l : List Sheet} (hl : l.length ≤ 1000) (hd : (l.map (·.page)).Nodup) : slices_SortFunc_Sheet_f109 n l = some (srtS l) := by
  unfold slices_SortFunc_Sheet_f109
  rw [Nat.ble_eq_true_of_le (by omega)]
  refine sortF_eq _ ⟨fun x _ y _ => ⟨_, group1_eq n x y⟩, fun x _ => ?_, fun x _ y _ z _ h1 h2 => ?_, fun x hx y hy h1 h2 => ?_⟩ ⟨srtS_perm l, ?_⟩
  · simp only [cmpD, group1_eq, Option.getD_some, cmpI_neg]; omega
  · simp only [cmpD, group1_eq, Option.getD_some, cmpI_neg] at h1 h2 ⊢; omega
  · simp only [cmpD, group1_eq, Option.getD_some, cmpI_neg] at h1 h2
    exact page_inj hd x hx y hy (by omega)
  · refine (srtS_sorted l).imp fun {a b} h => ?_
    simp only [cmpD, group1_eq, Option.getD_some, cmpI_neg]; omega
noncomputable def sortX (n : Nat) (l : List Sheet) : Option (List Sheet) := if l.length ≤ 1000 ∧ (l.map (·.page)).Nodup then some (srtS l) else slices_SortFunc_Sheet_f109 n l
theorem sort_fn : slices_SortFunc_Sheet_f109 = sortX := by
  funext n l
  unfold sortX
  split
  · rename_i h; exact sortS_eq n h.1 h.2
  · rfl
noncomputable def cloneRX (n : Nat) (l : List Row) : Option (List Row) := if l.length ≤ 1000 then some l else slices_Clone_Row n l
theorem cloneR_fn : slices_Clone_Row = cloneRX := by
  funext n l
  unfold cloneRX
  split
  · rename_i h; exact cloneR_eq n l h
  · rfl
noncomputable def cloneKX (n : Nat) (l : List Kid) : Option (List Kid) := if l.length ≤ 1000 then some l else slices_Clone_Kid n l
theorem cloneK_fn : slices_Clone_Kid = cloneKX := by
  funext n l
  unfold cloneKX
  split
  · rename_i h; exact cloneK_eq n l h
  · rfl
theorem cloneC_eq (n : Nat) (l : List Content) (h : l.length ≤ 1000) : slices_Clone_Content n l = some l := clone_eq (by omega) (by decide)
noncomputable def cloneCX (n : Nat) (l : List Content) : Option (List Content) := if l.length ≤ 1000 then some l else slices_Clone_Content n l
theorem cloneC_fn : slices_Clone_Content = cloneCX := by
  funext n l
  unfold cloneCX
  split
  · rename_i h; exact cloneC_eq n l h
  · rfl
theorem wakes : law13_wakes 30000 = some true := by
  delta law13_wakes law13_wakes_l1 tree_Put tree_Put_l1 tree_Put_l2 tree_Put_l3 tree_Put_l4 tree_change_parted tree_change_split tree_Apply tree_begun page_Put page_Split page_Adopt page_cut_Row page_cut_Kid tree_change_group
  rw [sort_fn, cloneR_fn, cloneK_fn, cloneC_fn]
  kernel_rfl
end Go.Proofs.YtlcmdgpjiendmaaGreat
namespace Go.Proofs.YtlcmdgpjiendmaaGreat
open Go.Bur
set_option linter.unusedSimpArgs false
set_option linter.unusedVariables false
set_option maxRecDepth 100000
theorem content_fine {d : Nat} {c : Content} (h : okT tab (d + 3) (.st 4) c) (h1 : c.rows.length ≤ 1000) (h2 : c.kids.length ≤ 1000) : Fine c :=
  ⟨h1, h2, fun k hk => keyIn_i64 (h.2.2.1.1 k hk).2.2.1⟩
theorem content_keys {d : Nat} {c : Content} (h : okT tab (d + 3) (.st 4) c) : Keys c := by
  refine ⟨fun r hr => ?_, fun k hk => ?_⟩
  · obtain ⟨a, b⟩ := (h.2.1.1 r hr).2.1
    have b : r.key.id ≤ 65535 := b
    exact ⟨a, by omega⟩
  · obtain ⟨a, b⟩ := (h.2.2.1.1 k hk).2.1
    have b : k.least.id ≤ 65535 := b
    exact ⟨a, by omega⟩
theorem over_l2 (n : Nat) (r1 : (List Content) × Int × Int × Unit → Option Bool) (cs : List Content) (a b : Int) (l : List Row) (hl : l.length ≤ 1000) : ∀ (m : Nat) (t : List Row) (i : Nat), l.drop i = t → i ≤ l.length → t.length < m →
    law13_over_l2 n r1 m (cs, a, b, l, (l.length : Int), (i : Int), ()) = some true ∨ law13_over_l2 n r1 m (cs, a, b, l, (l.length : Int), (i : Int), ()) = r1 (cs, a, IntKind.wrap .i64 (b + 1), ()) := by
  intro m
  induction m with
  | zero => intro t i _ _ h; omega
  | succ m ih =>
    intro t i ht hi hk
    unfold law13_over_l2
    rw [loopF_succ]
    generalize hr : loopF _ m = r2
    replace hr : law13_over_l2 n r1 m = r2 := hr
    simp only [hr] at ih
    cases t with
    | nil =>
      cases drop_end ht hi
      simp only [ge_dec (Nat.lt_irrefl _), cond_false]; right; trivial
    | cons x t =>
      obtain ⟨h1, h2, h3⟩ := drop_get ht
      simp only [lt_dec h3, cond_true, idx_nat, h1, Option.bind_some, wrap_succ (show i < 4611686018427387904 by omega)]
      cases decide ((x.note.size : Int) > 100) with
      | true => left; rfl
      | false => exact ih t (i + 1) h2 (by omega) (by simp only [List.length_cons] at hk; omega)
theorem over_l1 (n : Nat) (hn : 1003 ≤ n) (f : List Content) (hl : f.length ≤ 1000) : ∀ (m : Nat) (t : List Content) (i : Nat), f.drop i = t → i ≤ f.length → t.length < m →
    ∃ b, law13_over_l1 n m (f, (f.length : Int), (i : Int), ()) = some b ∧ (b = false → ∀ c ∈ t, c.rows.length ≤ 10 ∧ c.kids.length ≤ 10) := by
  intro m
  induction m with
  | zero => intro t i _ _ h; omega
  | succ m ih =>
    intro t i ht hi hk
    unfold law13_over_l1
    rw [loopF_succ]
    generalize hr : loopF _ m = r1
    replace hr : law13_over_l1 n m = r1 := hr
    simp only [hr] at ih
    cases t with
    | nil =>
      cases drop_end ht hi
      simp only [ge_dec (Nat.lt_irrefl _), cond_false]
      exact ⟨_, rfl, by simp⟩
    | cons x t =>
      obtain ⟨h1, h2, h3⟩ := drop_get ht
      simp only [lt_dec h3, cond_true, idx_nat, h1, Option.bind_some, jn]
      by_cases e1 : (x.rows.length : Int) > 10
      · rw [decide_eq_true e1]; exact ⟨true, rfl, fun h => by cases h⟩
      · rw [decide_eq_false e1, cond_false]
        by_cases e2 : (x.kids.length : Int) > 10
        · rw [decide_eq_true e2]; exact ⟨true, rfl, fun h => by cases h⟩
        · rw [decide_eq_false e2, cond_false]
          obtain ⟨b, g1, g2⟩ := ih t (i + 1) h2 (by omega) (by simp only [List.length_cons] at hk; omega)
          rcases over_l2 n r1 f (f.length : Int) (i : Int) x.rows (by omega) n x.rows 0 rfl (Nat.zero_le _) (by omega) with h | h
          · exact ⟨true, h, fun h => by cases h⟩
          · refine ⟨b, ?_, fun hb c hc => ?_⟩
            · rw [wrap_succ (show i < 4611686018427387904 by omega), g1] at h
              exact h
            · rcases List.mem_cons.1 hc with rfl | hc
              · omega
              · exact g2 hb c hc
theorem over_ex (n : Nat) (hn : 1003 ≤ n) (f : Forest) : ∃ b, law13_over n f = some b ∧ (b = false → f.pages.length ≤ 70 ∧ ∀ c ∈ f.pages, c.rows.length ≤ 10 ∧ c.kids.length ≤ 10) := by
  unfold law13_over
  by_cases e : (f.pages.length : Int) > 70
  · rw [decide_eq_true e]; exact ⟨true, rfl, fun h => by cases h⟩
  · rw [decide_eq_false e, cond_false]
    obtain ⟨b, h1, h2⟩ := over_l1 n hn f.pages (by omega) n f.pages 0 rfl (Nat.zero_le _) (by omega)
    exact ⟨b, h1, fun hb => ⟨by omega, h2 hb⟩⟩
def frees (f : List Content) : List Int := ((List.range' 1 63).filter fun (j : Nat) => decide ((pg f (j : Int)).kind = 0)).map Int.ofNat
theorem rfree_eq (n : Nat) (hn : 1003 ≤ n) {f : List Content} (hf : f.length = 64) : ref13_free n ⟨f⟩ = some (frees f) := by
  have key : ∀ (m i : Nat) (acc : List Int), i ≤ 64 → 64 - i < m → acc.length ≤ i → ref13_free_l1 n m ((i : Int), ⟨f⟩, acc, ()) = some (acc ++ ((List.range' i (64 - i)).filter fun (j : Nat) => decide ((pg f (j : Int)).kind = 0)).map Int.ofNat) := by
    intro m
    induction m with
    | zero => intro i acc _ h; omega
    | succ m ih =>
      intro i acc hi hm ha
      unfold ref13_free_l1
      rw [loopF_succ]
      generalize hr : loopF _ m = r1
      replace hr : ref13_free_l1 n m = r1 := hr
      simp only [hr] at ih
      by_cases h : i < 64
      · simp only [show decide ((i : Int) < 64) = true from decide_eq_true (by omega), cond_true, show idx f (i : Int) = some (pg f (i : Int)) from idx_pg ⟨by omega, by omega⟩, Option.bind_some, jn, ref13_free_j2, ieq0, wrap_succ (show i < 4611686018427387904 by omega), app_lt (show acc.length + [(i : Int)].length ≤ 1000000 by simp; omega) (show 8 ≤ 1000 by omega)]
        rw [show 64 - i = (64 - (i + 1)) + 1 by omega, List.range'_succ, List.filter_cons]
        by_cases h0 : (pg f (i : Int)).kind = 0
        · rw [decide_eq_true h0, cond_true, ih (i + 1) _ (by omega) (by omega) (by simp; omega)]
          simp
        · rw [decide_eq_false h0, cond_false, ih (i + 1) _ (by omega) (by omega) (by omega)]
          simp
      · obtain rfl : i = 64 := by omega
        simp only [show decide (((64 : Nat) : Int) < 64) = false from rfl, cond_false]
        simp
  exact (key n 1 [] (by omega) (by omega) (by simp)).trans (by simp [frees])
theorem mem_frees {f : List Content} {x : Int} : x ∈ frees f ↔ (0 < x ∧ x < 64) ∧ (pg f x).kind = 0 := by
  unfold frees
  rw [List.mem_map]
  constructor
  · rintro ⟨a, ha, rfl⟩
    obtain ⟨h1, h2⟩ := List.mem_filter.1 ha
    rw [List.mem_range'_1] at h1
    exact ⟨⟨by show (0 : Int) < (a : Int); omega, by show (a : Int) < 64; omega⟩, of_decide_eq_true h2⟩
  · rintro ⟨⟨h1, h2⟩, h3⟩
    have e : ((x.toNat : Nat) : Int) = x := by omega
    refine ⟨x.toNat, List.mem_filter.2 ⟨by rw [List.mem_range'_1]; omega, decide_eq_true ?_⟩, e⟩
    rw [e]; exact h3
theorem nodup_frees {f : List Content} : (frees f).Nodup := by
  unfold frees
  refine List.pairwise_map.2 (List.Pairwise.imp (fun {a b} h e => h (Int.ofNat.inj e)) ((List.nodup_range' ..).filter _))
theorem nodup_all64 : all64.Nodup := by
  unfold all64
  exact List.pairwise_map.2 (List.Pairwise.imp (fun {a b} h e => h (Int.ofNat.inj e)) List.nodup_range)
theorem count64 {f : List Content} {d : Nat} (hg : Good f d) : (frees f).length + (pgs f d 0).length = 64 := by
  have h1 : (frees f ++ pgs f d 0).Nodup := List.nodup_append.2 ⟨nodup_frees, hg.nodup, fun a ha b hb e => by
    subst e
    exact (sub_in hg.tree a hb).2 (mem_frees.1 ha).2⟩
  have hp : (frees f ++ pgs f d 0).Perm all64 := (List.perm_ext_iff_of_nodup h1 nodup_all64).2 fun x => by
    rw [List.mem_append, mem_all64]
    constructor
    · rintro (h | h)
      · have := (mem_frees.1 h).1; omega
      · exact (sub_in hg.tree x h).1
    · intro hx
      by_cases hm : x ∈ pgs f d 0
      · exact Or.inr hm
      · refine Or.inl (mem_frees.2 ⟨⟨?_, hx.2⟩, hg.rest x hx hm⟩)
        have : x ≠ 0 := fun e => hm (by
          subst e
          obtain ⟨d', rfl⟩ : ∃ d', d = d' + 1 := ⟨d - 1, by have := hg.pos; omega⟩
          exact pgs_self)
        omega
  have := hp.length_eq
  rw [List.length_append] at this
  rw [this]; simp [all64]
theorem rsameR_eq (n : Nat) (hn : 1003 ≤ n) (a b : List Row) (ha : a.length ≤ 1000) : ref05_Same n a b = some (eqL Row.eqb a b) := by
  unfold ref05_Same
  rw [lenne]
  by_cases h : a.length = b.length
  · rw [decide_eq_true h, Bool.not_true, cond_false]
    show ref05_Same_l1 n n (a, b, ((0 : Nat) : Int), ()) = _
    unfold ref05_Same_l1
    refine (eq_loop (e := Row.eqb) (no := some false) (yes := some true) a b h (fun i => (a, b, (i : Int), ())) (fun r i x y hx hy hi => ?_) (fun r => ?_) n 0 (Nat.zero_le _) (by omega)).trans ?_
    · simp only [lt_dec hi, cond_true, idx_nat, hx, hy, Option.bind_some, wrap_succ (show i < 4611686018427387904 by omega)]
      cases Row.eqb x y <;> simp
    · simp only [ge_dec (Nat.lt_irrefl _), cond_false]
    · simp only [List.drop_zero]; cases eqL Row.eqb a b <;> rfl
  · rw [decide_eq_false h, eqL_false h]; rfl
def new0 : List Content := (List.replicate 64 cont0).set 0 ⟨1, [], []⟩
theorem new_eq (n : Nat) : tree_New n = some ⟨new0⟩ := rfl
theorem rnew_eq (n : Nat) : ref13_New n = some ⟨new0⟩ := rfl
theorem new_fine : ∀ c ∈ new0, Fine c := fun c hc => by
  unfold new0 at hc
  rcases List.mem_or_eq_of_mem_set hc with h | h
  · rw [List.eq_of_mem_replicate h]; exact fine0
  · rw [h]; exact ⟨by simp, by simp, by simp⟩
theorem plainTreeTells (f o : Forest) (k : Key) (h1 : okT tab 9 (.st 5) f) (h2 : okT tab 9 (.st 5) o) (h3 : okT tab 9 (.st 1) k) : ∃ n, law13_TreeTells n f o k = some true := by
  refine ⟨30000, ?_⟩
  obtain ⟨f⟩ := f
  obtain ⟨o⟩ := o
  unfold law13_TreeTells
  rw [wakes]
  simp only [Option.bind_some, Bool.not_true, cond_false]
  obtain ⟨b1, e1, s1⟩ := over_ex 30000 (by omega) ⟨f⟩
  obtain ⟨b2, e2, s2⟩ := over_ex 30000 (by omega) ⟨o⟩
  simp only [e1, e2, Option.bind_some, jn]
  cases b1 with
  | true => rfl
  | false =>
  cases b2 with
  | true => rfl
  | false =>
  simp only [cond_false]
  obtain ⟨hl, hr⟩ := s1 rfl
  replace hl : f.length ≤ 70 := hl
  have hF : ∀ c ∈ f, Fine c := fun c hc => content_fine (d := 5) (h1.1.1 c hc) (by have := hr c hc; omega) (by have := hr c hc; omega)
  have hK : ∀ c ∈ f, Keys c := fun c hc => content_keys (d := 5) (h1.1.1 c hc)
  have hsame := eqL_refl sameC_refl f
  simp only [tsame_eq 30000 (by omega) f o (by omega) hF, rtsame_eq 30000 (by omega) f o (by omega) hF, tsame_eq 30000 (by omega) f f (by omega) hF, hsame, new_eq, rnew_eq, tsame_eq 30000 (by omega) new0 new0 (by decide) new_fine, eqL_refl sameC_refl new0, Option.bind_some, beq_self_eq_true, Bool.not_true, cond_false]
  by_cases hg : ∃ d, Good f d
  · obtain ⟨d, hg⟩ := hg
    have hdep := hg.deep
    have hrow := hg.rows
    obtain ⟨gs, gp, gd⟩ := sub_gsub 1 hg.tree (show d ≤ 8 by omega)
    have hdp := rdepths_eq ⟨hg.len, hg.ok⟩ 8 30000 (by omega) (by omega) 0 key0 none 1 gs (by omega) (by omega)
    have hdn := (gsub_dps 1 gs).2
    have hd0 : idx (dps f 8 0 1) 0 = some (d : Int) := by
      rw [idx_zero]
      have hpos : 0 < (dps f 8 0 1).length := List.length_pos_iff.2 hdn
      rw [get_some hpos, gd _ (List.getElem_mem hpos)]; congr 1; omega
    have hfree : ref13_Free 30000 ⟨f⟩ = some ((frees f).length : Int) := by
      unfold ref13_Free; rw [rfree_eq 30000 (by omega) hg.len]; rfl
    have hcnt := count64 hg
    have hget : tree_Get 30000 ⟨f⟩ k = some (ofF (findK (rws f d 0) k)) := by
      unfold tree_Get
      rw [check_good 30000 (by omega) hg]
      simp only [Option.bind_some]
      rw [show ((0 : Int) != 0) = false from rfl, cond_false, get_good 30000 (by omega) hg k]; rfl
    simp only [check_good 30000 (by omega) hg, rows_good 30000 (by omega) hg, hget, right_good 30000 (by omega) hg hK, rrows_good 30000 (by omega) hg, Option.bind_some, Bool.not_true, cond_false, show ((0 : Int) != 0) = false from rfl, rsameR_eq 30000 (by omega) _ _ (show (rws f d 0).length ≤ 1000 by omega), eqL_refl eqb_row, free_good 30000 (by omega) hg, hfree, depth_good 30000 (by omega) hg, hdp, hd0]
    rw [show ((64 - ((pgs f d 0).length : Int)) != ((frees f).length : Int)) = false from by
      rw [show (64 - ((pgs f d 0).length : Int)) = ((frees f).length : Int) by omega]; simp]
    simp only [cond_false, bne_self_eq_false, rfind_eq 30000 (by omega) _ (show (rws f d 0).length ≤ 1000 by omega), Option.bind_some, at_find]
    cases ha : at_ (rws f d 0) k with
    | none =>
      simp only [ixI, show decide ((-1 : Int) < 0) = true from rfl, cond_true, ofF, show Row.eqb row0 (Row.mk (Key.mk 0 0) 0 ByteArray.empty) = true from by simp [row0, Row.eqb]]
      rfl
    | some i =>
      obtain ⟨pre, x, post, q1, q2, _⟩ := idx_split ha
      have hx : (rws f d 0)[i]? = some x := by rw [q1, ← q2]; simp
      have hix : idx (rws f d 0) (i : Int) = some x := by rw [idx_nat, hx]
      simp only [ixI, decide_eq_false (show ¬ (i : Int) < 0 by omega), cond_false, hix, hx, Option.bind_some, ofF, show ((0 : Int) == 0) = true from rfl, cond_true, eqb_row]
      refine (condF' (decide_eq_false ?_)).trans ?_
      · show ¬ (i : Int) < 0
        omega
      · rfl
  · have hget : tree_Get 30000 ⟨f⟩ k = some (row0, 230) := by
      unfold tree_Get
      rw [check_bad 30000 (by omega) (by omega) hF hg]; rfl
    simp only [check_bad 30000 (by omega) (show f.length ≤ 1000 by omega) hF hg, rows_bad 30000 (by omega) (show f.length ≤ 1000 by omega) hF hg, hget, right_bad 30000 (by omega) (by omega) hF hK hg, free_bad 30000 (by omega) (show f.length ≤ 1000 by omega) hF hg, depth_bad 30000 (by omega) (show f.length ≤ 1000 by omega) hF hg, Option.bind_some, show Row.eqb row0 (Row.mk (Key.mk 0 0) 0 ByteArray.empty) = true from by simp [row0, Row.eqb]]
    rfl
end Go.Proofs.YtlcmdgpjiendmaaGreat
