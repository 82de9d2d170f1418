import Derived.Test.YtlcmdgpjiendmaaGreatTreF
namespace Go.Proofs.YtlcmdgpjiendmaaGreat
open Go.Bur
set_option linter.unusedSimpArgs false
set_option linter.unusedVariables false
set_option maxRecDepth 100000
def gsub (f : List Content) : Nat → Int → Key → Option Key → Prop
 | 0 => fun _ _ _ => False
 | m + 1 => fun n lo hi => (0 ≤ n ∧ n < 64) ∧ (n ≠ 0 → 2 ≤ sizeP (pg f n)) ∧ ((∃ l, pg f n = ⟨1, l, []⟩ ∧ LeafOk l ∧ ∀ r ∈ l, within r.key lo hi = true) ∨ ∃ l, pg f n = ⟨2, [], l⟩ ∧ InnerOk l ∧ (∀ k ∈ l.tail, within k.least lo hi = true) ∧ kidsOk (gsub f m) hi lo l)
end Go.Proofs.YtlcmdgpjiendmaaGreat
namespace Go.Proofs.YtlcmdgpjiendmaaGreat
open Go.Bur
set_option linter.unusedSimpArgs false
set_option linter.unusedVariables false
set_option maxRecDepth 100000
theorem len0 {α : Type} (l : List α) : ((l.length : Int) == 0) = decide (l.length = 0) := beq0
end Go.Proofs.YtlcmdgpjiendmaaGreat
namespace Go.Proofs.YtlcmdgpjiendmaaGreat
open Go.Bur
set_option linter.unusedSimpArgs false
set_option linter.unusedVariables false
set_option maxRecDepth 100000
def insS (s : Sheet) : List Sheet → List Sheet
 | [] => [s]
 | x :: t => if s.page ≤ x.page then s :: x :: t else x :: insS s t
def srtS : List Sheet → List Sheet
 | [] => []
 | x :: t => insS x (srtS t)
theorem insS_perm (s : Sheet) : ∀ (l : List Sheet), (insS s l).Perm (s :: l)
 | [] => List.Perm.refl _
 | x :: t => by
  unfold insS
  split
  ·exact List.Perm.refl _
  ·exact ((insS_perm s t).cons x).trans (List.Perm.swap ..)
theorem srtS_perm : ∀ (l : List Sheet), (srtS l).Perm l
 | [] => List.Perm.refl _
 | x :: t => (insS_perm x _).trans ((srtS_perm t).cons x)
theorem insS_sorted (s : Sheet) : ∀ {l : List Sheet}, l.Pairwise (fun a b => a.page ≤ b.page) → (insS s l).Pairwise fun a b => a.page ≤ b.page
 | [], _ => by simp [insS]
 | x :: t, h => by
  obtain ⟨h1, h2⟩ := List.pairwise_cons.1 h
  unfold insS
  split
  ·rename_i hs
   refine List.pairwise_cons.2 ⟨fun y hy => ?_, h⟩
   rcases List.mem_cons.1 hy with rfl | hy
   ·exact hs
   ·exact Int.le_trans hs (h1 y hy)
  ·rename_i hs
   refine List.pairwise_cons.2 ⟨fun y hy => ?_, insS_sorted s h2⟩
   rcases List.mem_cons.1 ((insS_perm s t).mem_iff.1 hy) with rfl | hy
   ·omega
   ·exact h1 y hy
theorem srtS_sorted : ∀ (l : List Sheet), (srtS l).Pairwise fun a b => a.page ≤ b.page
 | [] => List.Pairwise.nil
 | x :: t => insS_sorted x (srtS_sorted t)
theorem cmpI_neg {a b : Int} : cmpI a b < 0 ↔ a < b := by
 unfold cmpI
 by_cases h : a < b
 ·rw [if_pos h]; simp [h]
 ·rw [if_neg h]
  by_cases h2 : a > b
  ·rw [if_pos h2]; simp [h]
  ·rw [if_neg h2]; simp [h]
theorem group1_eq (n : Nat) (x y : Sheet) : tree_change_group_1 n x y = some (cmpI x.page y.page) := by
 unfold tree_change_group_1; rw [compare_int]; rfl
theorem page_inj : ∀ {l : List Sheet}, (l.map (·.page)).Nodup → ∀ x ∈ l, ∀ y ∈ l, x.page = y.page → x = y
 | [], _, _, hx, _, _, _ => by cases hx
 | a :: t, h, x, hx, y, hy, e => by
  rw [List.map_cons] at h
  obtain ⟨h1, h2⟩ := List.nodup_cons.1 h
  rcases List.mem_cons.1 hx with rfl | hx
  ·rcases List.mem_cons.1 hy with rfl | hy
   ·rfl
   ·exact absurd (List.mem_map.2 ⟨y, hy, e.symm⟩) h1
  ·rename_i hxt
   rcases List.mem_cons.1 hy with hya | hy
   ·subst hya; exact absurd (List.mem_map.2 ⟨x, by assumption, e⟩) h1
   ·exact page_inj h2 x hx y hy e
theorem sortS_eq (n : Nat) {l : List Sheet} (hl : l.length ≤ 1000) (hd : (l.map (·.page)).Nodup) : slices_SortFunc_Sheet_f109 n l = some (srtS l) := by
 unfold slices_SortFunc_Sheet_f109
 rw [Nat.ble_eq_true_of_le (by omega)]
 refine sortF_eq _ ⟨fun x _ y _ => ⟨_, group1_eq n x y⟩, fun x _ => ?_, fun x _ y _ z _ h1 h2 => ?_, fun x hx y hy h1 h2 => ?_⟩ ⟨srtS_perm l, ?_⟩
 ·simp only [cmpD, group1_eq, Option.getD_some, cmpI_neg]; omega
 ·simp only [cmpD, group1_eq, Option.getD_some, cmpI_neg] at h1 h2 ⊢; omega
 ·simp only [cmpD, group1_eq, Option.getD_some, cmpI_neg] at h1 h2
  exact page_inj hd x hx y hy (by omega)
 ·refine (srtS_sorted l).imp fun {a b} h => ?_
  simp only [cmpD, group1_eq, Option.getD_some, cmpI_neg]; omega
noncomputable def sortX (n : Nat) (l : List Sheet) : Option (List Sheet) := if l.length ≤ 1000 ∧ (l.map (·.page)).Nodup then some (srtS l) else slices_SortFunc_Sheet_f109 n l
theorem sort_fn : slices_SortFunc_Sheet_f109 = sortX := by
 funext n l
 unfold sortX
 split
 ·rename_i h; exact sortS_eq n h.1 h.2
 ·rfl
noncomputable def cloneRX (n : Nat) (l : List Row) : Option (List Row) := if l.length ≤ 1000 then some l else slices_Clone_Row n l
theorem cloneR_fn : slices_Clone_Row = cloneRX := by
 funext n l
 unfold cloneRX
 split
 ·rename_i h; exact cloneR_eq n l h
 ·rfl
noncomputable def cloneKX (n : Nat) (l : List Kid) : Option (List Kid) := if l.length ≤ 1000 then some l else slices_Clone_Kid n l
theorem cloneK_fn : slices_Clone_Kid = cloneKX := by
 funext n l
 unfold cloneKX
 split
 ·rename_i h; exact cloneK_eq n l h
 ·rfl
theorem cloneC_eq (n : Nat) (l : List Content) (h : l.length ≤ 1000) : slices_Clone_Content n l = some l := clone_eq (by omega) (by decide)
noncomputable def cloneCX (n : Nat) (l : List Content) : Option (List Content) := if l.length ≤ 1000 then some l else slices_Clone_Content n l
theorem cloneC_fn : slices_Clone_Content = cloneCX := by
 funext n l
 unfold cloneCX
 split
 ·rename_i h; exact cloneC_eq n l h
 ·rfl
theorem wakes : law13_wakes 30000 = some true := by
 delta law13_wakes law13_wakes_l1 tree_Put tree_Put_l1 tree_Put_l2 tree_Put_l3 tree_Put_l4 tree_change_parted tree_change_split tree_Apply tree_begun page_Put page_Split page_Adopt page_cut_Row page_cut_Kid tree_change_group
 rw [sort_fn, cloneR_fn, cloneK_fn, cloneC_fn]
 kernel_rfl
end Go.Proofs.YtlcmdgpjiendmaaGreat
namespace Go.Proofs.YtlcmdgpjiendmaaGreat
open Go.Bur
set_option linter.unusedSimpArgs false
set_option linter.unusedVariables false
set_option maxRecDepth 100000
def frees (f : List Content) : List Int := ((List.range' 1 63).filter fun (j : Nat) => decide ((pg f (j : Int)).kind = 0)).map Int.ofNat
theorem rfree_eq (n : Nat) (hn : 1003 ≤ n) {f : List Content} (hf : f.length = 64) : ref13_free n ⟨f⟩ = some (frees f) := by
 have key : ∀ (m i : Nat) (acc : List Int), i ≤ 64 → 64 - i < m → acc.length ≤ i → ref13_free_l1 n m ((i : Int), ⟨f⟩, acc, ()) = some (acc ++ ((List.range' i (64 - i)).filter fun (j : Nat) => decide ((pg f (j : Int)).kind = 0)).map Int.ofNat) := by
  intro m
  induction m with
  | zero => intro i acc _ h; omega
  | succ m ih =>
   intro i acc hi hm ha
   unfold ref13_free_l1
   rw [loopF_succ]
   generalize hr : loopF _ m = r1
   replace hr : ref13_free_l1 n m = r1 := hr
   simp only [hr] at ih
   by_cases h : i < 64
   ·simp only [show decide ((i : Int) < 64) = true from decide_eq_true (by omega), cond_true, show idx f (i : Int) = some (pg f (i : Int)) from idx_pg ⟨by omega, by omega⟩, Option.bind_some, jn, ref13_free_j2, ieq0, wrap_succ (show i < 4611686018427387904 by omega), app_lt (show acc.length + [(i : Int)].length ≤ 1000000 by simp; omega) (show 8 ≤ 1000 by omega)]
    rw [show 64 - i = (64 - (i + 1)) + 1 by omega, List.range'_succ, List.filter_cons]
    by_cases h0 : (pg f (i : Int)).kind = 0
    ·rw [decide_eq_true h0, cond_true, ih (i + 1) _ (by omega) (by omega) (by simp; omega)]
     simp
    ·rw [decide_eq_false h0, cond_false, ih (i + 1) _ (by omega) (by omega) (by omega)]
     simp
   ·obtain rfl : i = 64 := by omega
    simp only [show decide (((64 : Nat) : Int) < 64) = false from rfl, cond_false]
    simp
 exact (key n 1 [] (by omega) (by omega) (by simp)).trans (by simp [frees])
theorem mem_frees {f : List Content} {x : Int} : x ∈ frees f ↔ (0 < x ∧ x < 64) ∧ (pg f x).kind = 0 := by
 unfold frees
 rw [List.mem_map]
 constructor
 ·rintro ⟨a, ha, rfl⟩
  obtain ⟨h1, h2⟩ := List.mem_filter.1 ha
  rw [List.mem_range'_1] at h1
  exact ⟨⟨by show (0 : Int) < (a : Int); omega, by show (a : Int) < 64; omega⟩, of_decide_eq_true h2⟩
 ·rintro ⟨⟨h1, h2⟩, h3⟩
  have e : ((x.toNat : Nat) : Int) = x := by omega
  refine ⟨x.toNat, List.mem_filter.2 ⟨by rw [List.mem_range'_1]; omega, decide_eq_true ?_⟩, e⟩
  rw [e]; exact h3
theorem nodup_frees {f : List Content} : (frees f).Nodup := by
 unfold frees
 refine List.pairwise_map.2 (List.Pairwise.imp (fun {a b} h e => h (Int.ofNat.inj e)) ((List.nodup_range' ..).filter _))
theorem nodup_all64 : all64.Nodup := by
 unfold all64
 exact List.pairwise_map.2 (List.Pairwise.imp (fun {a b} h e => h (Int.ofNat.inj e)) List.nodup_range)
theorem count64 {f : List Content} {d : Nat} (hg : Good f d) : (frees f).length + (pgs f d 0).length = 64 := by
 have h1 : (frees f ++ pgs f d 0).Nodup := List.nodup_append.2 ⟨nodup_frees, hg.nodup, fun a ha b hb e => by
  subst e
  exact (sub_in hg.tree a hb).2 (mem_frees.1 ha).2⟩
 have hp : (frees f ++ pgs f d 0).Perm all64 := (List.perm_ext_iff_of_nodup h1 nodup_all64).2 fun x => by
  rw [List.mem_append, mem_all64]
  constructor
  ·rintro (h | h)
   ·have := (mem_frees.1 h).1; omega
   ·exact (sub_in hg.tree x h).1
  ·intro hx
   by_cases hm : x ∈ pgs f d 0
   ·exact Or.inr hm
   ·refine Or.inl (mem_frees.2 ⟨⟨?_, hx.2⟩, hg.rest x hx hm⟩)
    have : x ≠ 0 := fun e => hm (by
     subst e
     obtain ⟨d', rfl⟩ : ∃ d', d = d' + 1 := ⟨d - 1, by have := hg.pos; omega⟩
     exact pgs_self)
    omega
 have := hp.length_eq
 rw [List.length_append] at this
 rw [this]; simp [all64]
def new0 : List Content := (List.replicate 64 cont0).set 0 ⟨1, [], []⟩
theorem rnew_eq (n : Nat) : ref13_New n = some ⟨new0⟩ := rfl
end Go.Proofs.YtlcmdgpjiendmaaGreat
namespace Go.Proofs.YtlcmdgpjiendmaaGreat
open Go.Bur
set_option linter.unusedSimpArgs false
set_option linter.unusedVariables false
set_option maxRecDepth 100000
def setP (f : List Content) (n : Int) (c : Content) : List Content := f.set n.toNat c
def withS (f : List Content) : List Sheet → List Content
 | [] => f
 | s :: t => withS (setP f s.page s.content) t
def SheetsIn (l : List Sheet) : Prop := ∀ s ∈ l, 0 ≤ s.page ∧ s.page < 64
theorem set_len {f : List Content} {n : Int} {c : Content} : (setP f n c).length = f.length := by simp [setP]
theorem with_len : ∀ {l : List Sheet} {f : List Content}, (withS f l).length = f.length
 | [], _ => rfl
 | s :: t, f => by rw [withS, with_len, set_len]
theorem pg_set {f : List Content} {n : Int} {c : Content} (hf : f.length = 64) (hn : 0 ≤ n ∧ n < 64) (m : Int) : pg (setP f n c) m = if m = n then c else pg f m := by
 unfold pg setP
 by_cases hm : 0 ≤ m
 ·obtain ⟨j, rfl⟩ : ∃ j : Nat, m = (j : Int) := ⟨m.toNat, by omega⟩
  obtain ⟨i, rfl⟩ : ∃ i : Nat, n = (i : Int) := ⟨n.toNat, by omega⟩
  rw [idx_nat, idx_nat, Int.toNat_natCast]
  by_cases e : j = i
  ·subst e
   rw [if_pos rfl, List.getElem?_set_self (by omega)]; rfl
  ·rw [if_neg (by omega), List.getElem?_set_ne (fun h => e h.symm)]
 ·have h1 : ∀ l : List Content, idx l m = none := fun l => by unfold idx; rw [if_neg hm]
  rw [h1, h1, if_neg (by omega)]
theorem with_other : ∀ {l : List Sheet} {f : List Content} {m : Int}, f.length = 64 → SheetsIn l → (∀ s ∈ l, s.page ≠ m) → pg (withS f l) m = pg f m
 | [], _, _, _, _, _ => rfl
 | s :: t, f, m, hf, hl, hm => by
  rw [withS, with_other (by rw [set_len]; exact hf) (fun x hx => hl x (List.mem_cons_of_mem _ hx)) (fun x hx => hm x (List.mem_cons_of_mem _ hx)), pg_set hf (hl s (List.mem_cons_self ..)), if_neg (fun e => hm s (List.mem_cons_self ..) e.symm)]
theorem with_at : ∀ {l : List Sheet} {f : List Content}, f.length = 64 → SheetsIn l → (l.map (·.page)).Nodup → ∀ s ∈ l, pg (withS f l) s.page = s.content
 | s :: t, f, hf, hl, hd, x, hx => by
  rw [List.map_cons] at hd
  obtain ⟨d1, d2⟩ := List.nodup_cons.1 hd
  rw [withS]
  rcases List.mem_cons.1 hx with rfl | hx
  ·rw [with_other (by rw [set_len]; exact hf) (fun x hx => hl x (List.mem_cons_of_mem _ hx)) (fun y hy e => d1 (List.mem_map.2 ⟨y, hy, e⟩)), pg_set hf (hl x (List.mem_cons_self ..)), if_pos rfl]
  ·exact with_at (by rw [set_len]; exact hf) (fun x hx => hl x (List.mem_cons_of_mem _ hx)) d2 x hx
theorem pg_ext {f g : List Content} (hf : f.length = 64) (hg : g.length = 64) (h : ∀ m, 0 ≤ m ∧ m < 64 → pg f m = pg g m) : f = g := by
 refine List.ext_getElem (by omega) fun i h1 h2 => ?_
 have := h (i : Int) ⟨by omega, by omega⟩
 rwa [pg_nat (get_some h1), pg_nat (get_some h2)] at this
theorem srtS_nodup {l : List Sheet} (h : (l.map (·.page)).Nodup) : ((srtS l).map (·.page)).Nodup := ((srtS_perm l).map _).nodup_iff.2 h
theorem with_perm {f : List Content} {l m : List Sheet} (hp : l.Perm m) (hf : f.length = 64) (hl : SheetsIn l) (hd : (l.map (·.page)).Nodup) : withS f l = withS f m := by
 have hm : SheetsIn m := fun s hs => hl s (hp.mem_iff.2 hs)
 have hd' : (m.map (·.page)).Nodup := (hp.map _).nodup_iff.1 hd
 refine pg_ext (by rw [with_len]; exact hf) (by rw [with_len]; exact hf) fun k hk => ?_
 by_cases h : ∃ s ∈ l, s.page = k
 ·obtain ⟨s, hs, rfl⟩ := h
  rw [with_at hf hl hd s hs, with_at hf hm hd' s (hp.mem_iff.1 hs)]
 ·rw [with_other hf hl fun s hs e => h ⟨s, hs, e⟩, with_other hf hm fun s hs e => h ⟨s, hp.mem_iff.2 hs, e⟩]
def Ctx (f : List Content) (D d : Nat) (n : Int) (lo : Key) (hi : Option Key) (Q : List Int) (R1 R2 : List Row) : Prop :=
 ∀ f', (∀ m ∈ Q, pg f' m = pg f m) → sub f' d n lo hi → sub f' D 0 key0 none ∧ (pgs f' D 0).Perm (Q ++ pgs f' d n) ∧ rws f' D 0 = R1 ++ (rws f' d n ++ R2)
structure At (f : List Content) (D d : Nat) (n : Int) (lo : Key) (hi : Option Key) (Q : List Int) (R1 R2 : List Row) : Prop where
 len : f.length = 64
 ok : ∀ m, 0 ≤ m ∧ m < 64 → checkP (pg f m) = true
 ctx : Ctx f D d n lo hi Q R1 R2
 tree : sub f d n lo hi
 nodup : (Q ++ pgs f d n).Nodup
 rest : ∀ m, 0 ≤ m ∧ m < 64 → m ∉ Q ++ pgs f d n → (pg f m).kind = 0
 low : ltK lo key0 = false
theorem At.good {f : List Content} {D d : Nat} {n : Int} {lo : Key} {hi : Option Key} {Q : List Int} {R1 R2 : List Row} (h : At f D d n lo hi Q R1 R2) : Good f D ∧ rws f D 0 = R1 ++ (rws f d n ++ R2) := by
 obtain ⟨h1, h2, h3⟩ := h.ctx f (fun _ _ => rfl) h.tree
 exact ⟨⟨h.len, h.ok, h1, h2.nodup_iff.2 h.nodup, fun m hm hn => h.rest m hm fun hq => hn (h2.mem_iff.2 hq)⟩, h3⟩
theorem At.root {f : List Content} {D : Nat} (h : Good f D) : At f D D 0 key0 none [] [] [] :=
 ⟨h.len, h.ok, fun f' _ hs => ⟨hs, List.Perm.refl _, by simp⟩, h.tree, h.nodup, fun m hm hn => h.rest m hm hn, ltK_irrefl _⟩
theorem At.free {f : List Content} {D d : Nat} {n : Int} {lo : Key} {hi : Option Key} {Q : List Int} {R1 R2 : List Row} (h : At f D d n lo hi Q R1 R2) {m : Int} (hm : m ∈ frees f) : (0 < m ∧ m < 64) ∧ m ∉ Q ++ pgs f d n := by
 obtain ⟨h1, h2⟩ := mem_frees.1 hm
 obtain ⟨g1, g2, _⟩ := h.ctx f (fun _ _ => rfl) h.tree
 exact ⟨h1, fun hq => (sub_in g1 m (g2.mem_iff.2 hq)).2 h2⟩
theorem At.down {f : List Content} {D d : Nat} {n : Int} {lo : Key} {hi : Option Key} {Q : List Int} {R1 R2 : List Row} (h : At f D (d + 2) n lo hi Q R1 R2) {l1 l2 : List Kid} {x : Kid} (hp : pg f n = ⟨2, [], l1 ++ x :: l2⟩) :
  At f D (d + 1) x.page (loAt l1 lo x.least) (nxt hi l2) (Q ++ n :: ((l1.flatMap fun k => pgs f (d + 1) k.page) ++ l2.flatMap fun k => pgs f (d + 1) k.page)) (R1 ++ l1.flatMap fun k => rws f (d + 1) k.page) ((l2.flatMap fun k => rws f (d + 1) k.page) ++ R2) := by
 obtain ⟨l, e, hl2, hl4, hK⟩ := inner_of h.tree
 obtain rfl : l = l1 ++ x :: l2 := by rw [hp] at e; injection e with _ _ e; exact e.symm
 obtain ⟨k1, k2, k3⟩ := (kids3 (N := [x]) (N' := []) rfl).1 hK.ok
 have k2 : sub f (d + 1) x.page (loAt l1 lo x.least) (nxt hi l2) := k2
 have hpl := pgs_list (d := d + 1) hp
 have hnd := h.nodup
 rw [hpl, List.flatMap_append, List.flatMap_cons] at hnd
 have hperm : ((Q ++ n :: ((l1.flatMap fun k => pgs f (d + 1) k.page) ++ l2.flatMap fun k => pgs f (d + 1) k.page)) ++ pgs f (d + 1) x.page).Perm (Q ++ pgs f (d + 2) n) := by
  rw [hpl, List.flatMap_append, List.flatMap_cons]
  refine List.perm_iff_count.2 fun a => ?_
  simp only [List.count_cons, List.count_append]; omega
 refine ⟨h.len, h.ok, fun f' hag hs => ?_, k2, hperm.nodup_iff.2 h.nodup, fun m hm hn => h.rest m hm fun hq => hn (hperm.mem_iff.2 hq), loAt_ge hK h.low⟩
 have en : pg f' n = pg f n := hag n (List.mem_append_right _ (List.mem_cons_self ..))
 have hxm : ∀ j ∈ l1 ++ l2, x.page ≠ j.page := fun j hj e => by
  have hn := hK.nodup
  rw [List.map_append, List.map_cons] at hn
  obtain ⟨_, n2, n3⟩ := List.nodup_append.1 hn
  rcases List.mem_append.1 hj with hj | hj
  ·exact n3 j.page (List.mem_map.2 ⟨j, hj, rfl⟩) x.page (List.mem_cons_self ..) e.symm
  ·exact (List.nodup_cons.1 n2).1 (List.mem_map.2 ⟨j, hj, e.symm⟩)
 obtain ⟨g1, g2, g3⟩ := block_gen (N := [x]) (M := [x]) (x := x) (x' := x) (f' := f') h.tree hp (en.trans hp) h.low hl2 hl4 rfl rfl rfl (fun k hk p hp => by
   refine hag p (List.mem_append_right _ (List.mem_cons_of_mem _ ?_))
   rcases List.mem_append.1 hk with hk | hk
   ·exact List.mem_append_left _ (List.mem_flatMap.2 ⟨k, hk, hp⟩)
   ·exact List.mem_append_right _ (List.mem_flatMap.2 ⟨k, hk, hp⟩)) hs (fun k hk => by cases List.mem_singleton.1 hk; exact hK.page x (by simp)) (by simp) (fun k hk j hj => by cases List.mem_singleton.1 hk; exact hxm j hj) (fun k hk => by cases List.mem_singleton.1 hk; exact hK.tab x (by simp))
 obtain ⟨c1, c2, c3⟩ := h.ctx f' (fun m hm => hag m (List.mem_append_left _ hm)) g1
 refine ⟨c1, c2.trans ?_, ?_⟩
 ·rw [g3]
  simp only [List.flatMap_cons, List.flatMap_nil, List.append_nil]
  refine List.perm_iff_count.2 fun a => ?_
  simp only [List.count_cons, List.count_append]; omega
 ·rw [c3, g2]
  simp only [List.flatMap_cons, List.flatMap_nil, List.append_nil, List.append_assoc]
theorem At.change {f f' : List Content} {D d : Nat} {n : Int} {lo : Key} {hi : Option Key} {Q : List Int} {R1 R2 : List Row} (h : At f D d n lo hi Q R1 R2) (hl : f'.length = 64) (hok : ∀ m, 0 ≤ m ∧ m < 64 → checkP (pg f' m) = true) (hq : ∀ m ∈ Q, pg f' m = pg f m) (hs : sub f' d n lo hi) (hn : (Q ++ pgs f' d n).Nodup) (hr : ∀ m, 0 ≤ m ∧ m < 64 → m ∉ Q ++ pgs f' d n → (pg f' m).kind = 0) : At f' D d n lo hi Q R1 R2 :=
 ⟨hl, hok, fun f2 hag hs2 => h.ctx f2 (fun m hm => (hag m hm).trans (hq m hm)) hs2, hs, hn, hr, h.low⟩
end Go.Proofs.YtlcmdgpjiendmaaGreat
namespace Go.Proofs.YtlcmdgpjiendmaaGreat
open Go.Bur
set_option linter.unusedSimpArgs false
set_option linter.unusedVariables false
set_option maxRecDepth 100000
theorem sub_ok' {f : List Content} : ∀ {d : Nat} {n : Int} {lo : Key} {hi : Option Key}, sub f d n lo hi → ∀ m ∈ pgs f d n, checkP (pg f m) = true
 | 1, n, lo, hi, h, m, hm => by
  have hc := sub_check h
  obtain ⟨_, _, l, h3, _⟩ := h
  rw [pgs, h3] at hm
  cases List.mem_singleton.1 hm; exact hc
 | d + 2, n, lo, hi, h, m, hm => by
  have hc := sub_check h
  obtain ⟨_, _, l, h3, _, _, h6⟩ := h
  rcases List.mem_cons.1 hm with rfl | hm
  ·exact hc
  ·obtain ⟨k, hk, hm⟩ := List.mem_flatMap.1 hm
   rw [h3] at hk
   obtain ⟨a, b, hs⟩ := kidsOk_all h6 k hk
   exact sub_ok' hs m hm
theorem tw_all {α : Type} {p : α → Bool} : ∀ {u v : List α}, (∀ x ∈ u, p x = true) → (u ++ v).takeWhile p = u ++ v.takeWhile p
 | [], _, _ => rfl
 | x :: u, v, h => by rw [List.cons_append, List.takeWhile_cons, h x (List.mem_cons_self ..)]; simp only [if_true]; rw [tw_all fun y hy => h y (List.mem_cons_of_mem _ hy)]; rfl
theorem kidI_of {l1 l2 : List Kid} {x : Kid} {k : Key} (h : (l1 ++ x :: l2).Pairwise fun a b => ltK a.least b.least = true) (c1 : l1 ≠ [] → ltK k x.least = false) (c2 : ∀ y t, l2 = y :: t → ltK k y.least = true) : kidI (l1 ++ x :: l2) k = l1.length := by
 have h2 : l2.takeWhile (fun y => !ltK k y.least) = [] := by
  cases l2 with
  | nil => rfl
  | cons y t => rw [List.takeWhile_cons, c2 y t rfl]; rfl
 unfold kidI
 cases l1 with
 | nil => rw [List.nil_append, List.tail_cons, h2]
 | cons a u =>
  have hx := c1 (by simp)
  rw [List.cons_append, List.tail_cons, tw_all fun y hy => ?_, List.takeWhile_cons, hx]
  ·simp only [Bool.not_false, if_true, h2]; simp
  ·obtain ⟨_, _, q⟩ := List.pairwise_append.1 h
   rw [le_le (lt_asymm (q y (List.mem_cons_of_mem _ hy) x (List.mem_cons_self ..))) hx]; rfl
def kidAt (l : List Kid) (i : Nat) : Kid := (l[i]?).getD ⟨key0, 0⟩
theorem kidAt_mid {l1 l2 : List Kid} {x : Kid} : kidAt (l1 ++ x :: l2) l1.length = x := by simp [kidAt]
def On (f : List Content) (D d : Nat) (n : Int) (k : Key) : Prop := ∃ lo hi Q R1 R2, At f D d n lo hi Q R1 R2 ∧ within k lo hi = true ∧ (∀ r ∈ R1, ltK r.key k = true) ∧ ∀ r ∈ R2, ltK k r.key = true
theorem On.root {f : List Content} {D : Nat} (h : Good f D) {k : Key} (hk : ltK k key0 = false) : On f D D 0 k := ⟨key0, none, [], [], [], At.root h, within_iff.2 ⟨hk, fun _ e => by cases e⟩, by simp, by simp⟩
theorem On.good {f : List Content} {D d : Nat} {n : Int} {k : Key} (h : On f D d n k) : Good f D := by obtain ⟨_, _, _, _, _, h, _⟩ := h; exact h.good.1
theorem On.down {f : List Content} {D d : Nat} {n : Int} {k : Key} (h : On f D (d + 2) n k) {l1 l2 : List Kid} {x : Kid} (hp : pg f n = ⟨2, [], l1 ++ x :: l2⟩) (c1 : l1 ≠ [] → ltK k x.least = false) (c2 : ∀ y t, l2 = y :: t → ltK k y.least = true) : On f D (d + 1) x.page k := by
 obtain ⟨lo, hi, Q, R1, R2, h, hw, h1, h2⟩ := h
 obtain ⟨l, e, hl2, hl4, hK⟩ := inner_of h.tree
 obtain rfl : l = l1 ++ x :: l2 := by rw [hp] at e; injection e with _ _ e; exact e.symm
 obtain ⟨i1, i2⟩ := hK.inner h.low hl2 hl4
 have hw' := within_iff.1 hw
 obtain ⟨a, s1, s2, s3, s4, s5⟩ := kid_rows i1 i2 hK.ok rfl c1 c2 hw'.2
 refine ⟨_, _, _, _, _, h.down hp, within_iff.2 ⟨?_, s2⟩, fun r hr => ?_, fun r hr => ?_⟩
 ·cases l1 with
  | nil => exact hw'.1
  | cons u v => exact c1 (by simp)
 ·rcases List.mem_append.1 hr with hr | hr
  ·exact h1 r hr
  ·exact s4 r hr
 ·rcases List.mem_append.1 hr with hr | hr
  ·exact s5 r hr
  ·exact h2 r hr
theorem On.kids {f : List Content} {D d : Nat} {n : Int} {k : Key} (h : On f D (d + 2) n k) : ∃ l1 x l2, pg f n = ⟨2, [], l1 ++ x :: l2⟩ ∧ InnerOk (l1 ++ x :: l2) ∧ l1.length = kidI (l1 ++ x :: l2) k ∧ (l1 ≠ [] → ltK k x.least = false) ∧ (∀ y t, l2 = y :: t → ltK k y.least = true) ∧ On f D (d + 1) x.page k := by
 have h' := h
 obtain ⟨lo, hi, Q, R1, R2, h1, hw, _⟩ := h
 obtain ⟨l, e, hl2, hl4, hK⟩ := inner_of h1.tree
 have hI := (hK.inner h1.low hl2 hl4).1
 obtain ⟨l1, x, l2, e1, e2, c1, c2⟩ := kid_cut hI.ne k
 subst e1
 exact ⟨l1, x, l2, e, hI, e2, c1, c2, h'.down e c1 c2⟩
theorem three {l : List Sheet} {f : List Content} (hf : f.length = 64) (hl : SheetsIn l) (hd : (l.map (·.page)).Nodup) : (∀ s ∈ l, pg (withS f (srtS l)) s.page = s.content) ∧ ∀ m, (∀ s ∈ l, s.page ≠ m) → pg (withS f (srtS l)) m = pg f m := by
 have e : withS f (srtS l) = withS f l := (with_perm (srtS_perm l).symm hf hl hd).symm
 rw [e]
 exact ⟨with_at hf hl hd, fun m hm => with_other hf hl hm⟩
def splitS (f : List Content) (n : Int) (i : Nat) (m : Int) : List Sheet :=
 let l := (pg f n).kids
 let x := kidAt l i
 let c := pg f x.page
 [⟨n, ⟨2, [], l.take (i + 1) ++ ⟨cutS c 2, m⟩ :: l.drop (i + 1)⟩⟩, ⟨x.page, cutA c 2⟩, ⟨m, cutB c 2⟩]
theorem splitS_eq {f : List Content} {n m : Int} {l1 l2 : List Kid} {x : Kid} (hp : pg f n = ⟨2, [], l1 ++ x :: l2⟩) : splitS f n l1.length m = [⟨n, ⟨2, [], l1 ++ x :: ⟨cutS (pg f x.page) 2, m⟩ :: l2⟩⟩, ⟨x.page, cutA (pg f x.page) 2⟩, ⟨m, cutB (pg f x.page) 2⟩] := by
 unfold splitS
 rw [hp]
 simp only [kidAt_mid]
 have e1 : (l1 ++ x :: l2).take (l1.length + 1) = l1 ++ [x] := by
  rw [show l1 ++ x :: l2 = (l1 ++ [x]) ++ l2 by simp, show l1.length + 1 = (l1 ++ [x]).length by simp, List.take_left]
 have e2 : (l1 ++ x :: l2).drop (l1.length + 1) = l2 := by
  rw [show l1 ++ x :: l2 = (l1 ++ [x]) ++ l2 by simp, show l1.length + 1 = (l1 ++ [x]).length by simp, List.drop_left]
 rw [e1, e2]
 simp
structure Grp (f : List Content) (l : List Sheet) : Prop where
 rng : SheetsIn l
 nodup : (l.map (·.page)).Nodup
theorem split_on {f : List Content} {D d : Nat} {n m : Int} {k : Key} (h : On f D (d + 2) n k) {l1 l2 : List Kid} {x : Kid} (hp : pg f n = ⟨2, [], l1 ++ x :: l2⟩) (c1 : l1 ≠ [] → ltK k x.least = false) (c2 : ∀ y t, l2 = y :: t → ltK k y.least = true) (h3 : (l1 ++ x :: l2).length ≤ 3) (hfull : sizeP (pg f x.page) = 4) (hm : m ∈ frees f) :
  Grp f (splitS f n l1.length m) ∧ On (withS f (srtS (splitS f n l1.length m))) D (d + 2) n k ∧ rws (withS f (srtS (splitS f n l1.length m))) D 0 = rws f D 0 ∧ pg (withS f (srtS (splitS f n l1.length m))) n = ⟨2, [], l1 ++ x :: ⟨cutS (pg f x.page) 2, m⟩ :: l2⟩ ∧
  pg (withS f (srtS (splitS f n l1.length m))) x.page = cutA (pg f x.page) 2 ∧ pg (withS f (srtS (splitS f n l1.length m))) m = cutB (pg f x.page) 2 ∧ sizeP (cutA (pg f x.page) 2) = 2 ∧ sizeP (cutB (pg f x.page) 2) = 2 := by
 obtain ⟨lo, hi, Q, R1, R2, h, hw, hr1, hr2⟩ := h
 obtain ⟨hm0, hmf⟩ := h.free hm
 have hnd := (List.nodup_append.1 h.nodup).2.1
 have hpl := pgs_list (d := d + 1) hp
 have hxin : x.page ∈ pgs f (d + 2) n := by rw [hpl]; exact List.mem_cons_of_mem _ (kid_self (by simp))
 have hmp : m ∉ pgs f (d + 2) n := fun e => hmf (List.mem_append_right _ e)
 have hxn : x.page ≠ n := fun e => by
  rw [hpl] at hnd
  exact (List.nodup_cons.1 hnd).1 (by rw [← e]; exact kid_self (by simp))
 have hmn : m ≠ n := fun e => hmp (by rw [e]; exact pgs_self)
 have hmx : m ≠ x.page := fun e => hmp (by rw [e]; exact hxin)
 have hn := sub_page h.tree
 have hx := (sub_in h.tree _ hxin).1
 have hG : Grp f (splitS f n l1.length m) := by
  rw [splitS_eq hp]
  refine ⟨fun s hs => ?_, ?_⟩
  ·simp only [List.mem_cons, List.not_mem_nil, or_false] at hs
   rcases hs with rfl | rfl | rfl
   ·exact hn
   ·exact hx
   ·simp only; omega
  ·simp only [List.map_cons, List.map_nil, List.nodup_cons, List.mem_cons, List.not_mem_nil, or_false, not_or, List.nodup_nil, and_true, not_false_eq_true]
   exact ⟨⟨fun e => hxn e.symm, fun e => hmn e.symm⟩, fun e => hmx e.symm⟩
 obtain ⟨t1, t2⟩ := three h.len hG.rng hG.nodup
 have hsz : sizeP (cutA (pg f x.page) 2) = 2 ∧ sizeP (cutB (pg f x.page) 2) = 2 := by
  obtain ⟨l, e, hl2, hl4, hK⟩ := inner_of h.tree
  obtain rfl : l = l1 ++ x :: l2 := by rw [hp] at e; injection e with _ _ e; exact e.symm
  obtain ⟨a, b, hs⟩ := kidsOk_all hK.ok x (by simp)
  obtain ⟨_, _, _, _, _, q1, q2⟩ := con_cut (m := 2) (con_of hs).1 (by omega) (by omega)
  exact ⟨q1, by omega⟩
 generalize hf' : withS f (srtS (splitS f n l1.length m)) = f' at t1 t2 ⊢
 rw [splitS_eq hp] at t1 t2
 have e1 := t1 _ (List.mem_cons_self ..)
 have e2 := t1 _ (List.mem_cons_of_mem _ (List.mem_cons_self ..))
 have e3 := t1 _ (List.mem_cons_of_mem _ (List.mem_cons_of_mem _ (List.mem_cons_self ..)))
 simp only at e1 e2 e3
 have e4 : ∀ p, p ≠ n → p ≠ x.page → p ≠ m → pg f' p = pg f p := fun p q1 q2 q3 => t2 p fun s hs => by
  simp only [List.mem_cons, List.not_mem_nil, or_false] at hs
  rcases hs with rfl | rfl | rfl
  ·exact q1.symm
  ·exact q2.symm
  ·exact q3.symm
 have hlen : f'.length = 64 := by rw [← hf', with_len]; exact h.len
 obtain ⟨g1, g2, g3, g4⟩ := split_step h.tree hp h.low h3 hfull hnd hm0 hmp e1 e2 e3 e4
 have hQ : ∀ q ∈ Q, pg f' q = pg f q := fun q hq => by
  have hdj := (List.nodup_append.1 h.nodup).2.2
  exact e4 q (fun e => hdj q hq n pgs_self e) (fun e => hdj q hq _ hxin e) (fun e => hmf (by rw [← e]; exact List.mem_append_left _ hq))
 have hperm : (Q ++ pgs f' (d + 2) n).Perm (m :: (Q ++ pgs f (d + 2) n)) := (g3.append_left Q).trans List.perm_middle
 have hA : At f' D (d + 2) n lo hi Q R1 R2 := h.change hlen (fun p hp' => by
   by_cases hin : p ∈ pgs f' (d + 2) n
   ·exact sub_ok' g1 p hin
   ·have hne : p ≠ n ∧ p ≠ x.page ∧ p ≠ m := ⟨fun e => hin (by rw [e]; exact pgs_self), fun e => hin (g3.mem_iff.2 (by rw [e]; exact List.mem_cons_of_mem _ hxin)), fun e => hin (g3.mem_iff.2 (by rw [e]; exact List.mem_cons_self ..))⟩
    rw [e4 p hne.1 hne.2.1 hne.2.2]; exact h.ok p hp') hQ g1 (hperm.nodup_iff.2 (List.nodup_cons.2 ⟨hmf, h.nodup⟩)) (fun p hp' hnp => by
   have hnp' : p ∉ m :: (Q ++ pgs f (d + 2) n) := fun e => hnp (hperm.mem_iff.2 e)
   have hne : p ≠ n ∧ p ≠ x.page ∧ p ≠ m := ⟨fun e => hnp' (by rw [e]; exact List.mem_cons_of_mem _ (List.mem_append_right _ pgs_self)), fun e => hnp' (by rw [e]; exact List.mem_cons_of_mem _ (List.mem_append_right _ hxin)), fun e => hnp' (by rw [e]; exact List.mem_cons_self ..)⟩
   rw [e4 p hne.1 hne.2.1 hne.2.2]
   exact h.rest p hp' fun e => hnp' (List.mem_cons_of_mem _ e))
 exact ⟨hG, ⟨lo, hi, Q, R1, R2, hA, hw, hr1, hr2⟩, by rw [hA.good.2, h.good.2, g2], e1, e2, e3, hsz.1, hsz.2⟩
end Go.Proofs.YtlcmdgpjiendmaaGreat
namespace Go.Proofs.YtlcmdgpjiendmaaGreat
open Go.Bur
set_option linter.unusedSimpArgs false
set_option linter.unusedVariables false
set_option maxRecDepth 100000
def Chain (R : List Row) : List Content → List Group → List Content → Prop
 | f, [], f' => f' = f
 | f, g :: gs, f' => Grp f g.sheets ∧ (g.sheets.Pairwise fun a b => a.page < b.page) ∧ (∃ D, Good (withS f g.sheets) D ∧ rws (withS f g.sheets) D 0 = R) ∧ Chain R (withS f g.sheets) gs f'
theorem chain_app {R : List Row} : ∀ {gs hs : List Group} {f f' f'' : List Content}, Chain R f gs f' → Chain R f' hs f'' → Chain R f (gs ++ hs) f''
 | [], _, _, _, _, h1, h2 => by cases h1; exact h2
 | g :: gs, _, _, _, _, ⟨a, b, c, h1⟩, h2 => ⟨a, b, c, chain_app h1 h2⟩
theorem srtS_lt {l : List Sheet} (hd : (l.map (·.page)).Nodup) : (srtS l).Pairwise fun a b => a.page < b.page := by
 have h1 := srtS_sorted l
 have h2 := List.pairwise_map.1 (srtS_nodup hd)
 exact h1.imp₂ (fun a b h h' => by have : a.page ≠ b.page := h'; omega) h2
theorem grp_srt {f : List Content} {l : List Sheet} (h : Grp f l) : Grp f (srtS l) := ⟨fun s hs => h.rng s ((srtS_perm l).mem_iff.1 hs), srtS_nodup h.nodup⟩
theorem chain_one {R : List Row} {f : List Content} {l : List Sheet} {D : Nat} (h : Grp f l) (hg : Good (withS f (srtS l)) D) (hr : rws (withS f (srtS l)) D 0 = R) : Chain R f [⟨srtS l⟩] (withS f (srtS l)) :=
 ⟨grp_srt h, srtS_lt h.nodup, ⟨D, hg, hr⟩, rfl⟩
theorem On.low {f : List Content} {D d : Nat} {n : Int} {k : Key} (h : On f D d n k) : ltK k key0 = false := by
 obtain ⟨lo, hi, Q, R1, R2, h1, hw, _⟩ := h
 exact le_le h1.low (within_iff.1 hw).1
def partS (f : List Content) (a b : Int) : List Sheet := [⟨0, ⟨2, [], [⟨key0, a⟩, ⟨cutS (pg f 0) 2, b⟩]⟩⟩, ⟨a, cutA (pg f 0) 2⟩, ⟨b, cutB (pg f 0) 2⟩]
theorem part_good {f : List Content} {D : Nat} {a b : Int} {t : List Int} (h : Good f D) (hfull : sizeP (pg f 0) = 4) (hfr : frees f = a :: b :: t) :
  Grp f (partS f a b) ∧ Good (withS f (srtS (partS f a b))) (D + 1) ∧ rws (withS f (srtS (partS f a b))) (D + 1) 0 = rws f D 0 ∧ pg (withS f (srtS (partS f a b))) 0 = ⟨2, [], [⟨key0, a⟩, ⟨cutS (pg f 0) 2, b⟩]⟩ ∧
  pg (withS f (srtS (partS f a b))) a = cutA (pg f 0) 2 ∧ pg (withS f (srtS (partS f a b))) b = cutB (pg f 0) 2 ∧ sizeP (cutA (pg f 0) 2) = 2 ∧ sizeP (cutB (pg f 0) 2) = 2 ∧ (0 < a ∧ a < b ∧ b < 64) := by
 obtain ⟨d, rfl⟩ : ∃ d, D = d + 1 := ⟨D - 1, by have := h.pos; omega⟩
 have hA := At.root h
 obtain ⟨ha0, haf⟩ := hA.free (m := a) (by rw [hfr]; exact List.mem_cons_self ..)
 obtain ⟨hb0, hbf⟩ := hA.free (m := b) (by rw [hfr]; exact List.mem_cons_of_mem _ (List.mem_cons_self ..))
 rw [List.nil_append] at haf hbf
 have hsrt : (frees f).Pairwise (· < ·) := by
  unfold frees
  refine List.pairwise_map.2 (List.Pairwise.imp (fun {a b} h => Int.ofNat_lt.2 h) ((List.pairwise_lt_range' ..).filter _))
 have hab : a < b := by rw [hfr] at hsrt; exact (List.pairwise_cons.1 hsrt).1 b (List.mem_cons_self ..)
 have hG : Grp f (partS f a b) := by
  refine ⟨fun s hs => ?_, ?_⟩
  ·simp only [partS, List.mem_cons, List.not_mem_nil, or_false] at hs
   rcases hs with rfl | rfl | rfl <;> (simp only; omega)
  ·simp only [partS, List.map_cons, List.map_nil, List.nodup_cons, List.mem_cons, List.not_mem_nil, or_false, not_or, List.nodup_nil, and_true, not_false_eq_true]
   omega
 obtain ⟨t1, t2⟩ := three h.len hG.rng hG.nodup
 obtain ⟨_, _, _, _, _, q1, q2⟩ := con_cut (m := 2) (con_of h.tree).1 (by omega) (by omega)
 generalize hf' : withS f (srtS (partS f a b)) = f' at t1 t2 ⊢
 have e1 := t1 _ (List.mem_cons_self ..)
 have e2 := t1 _ (List.mem_cons_of_mem _ (List.mem_cons_self ..))
 have e3 := t1 _ (List.mem_cons_of_mem _ (List.mem_cons_of_mem _ (List.mem_cons_self ..)))
 simp only at e1 e2 e3
 have e4 : ∀ p, p ≠ 0 → p ≠ a → p ≠ b → pg f' p = pg f p := fun p q1 q2 q3 => t2 p fun s hs => by
  simp only [partS, List.mem_cons, List.not_mem_nil, or_false] at hs
  rcases hs with rfl | rfl | rfl
  ·exact q1.symm
  ·exact q2.symm
  ·exact q3.symm
 obtain ⟨g1, g2, g3⟩ := part_step h.tree hfull h.nodup ha0 hb0 (by omega) haf hbf e1 e2 e3 e4
 have hperm : (pgs f' (d + 2) 0).Perm (a :: b :: pgs f (d + 1) 0) := g3
 refine ⟨hG, ⟨by rw [← hf', with_len]; exact h.len, fun p hp => ?_, g1, hperm.nodup_iff.2 (List.nodup_cons.2 ⟨fun e => ?_, List.nodup_cons.2 ⟨hbf, h.nodup⟩⟩), fun p hp hnp => ?_⟩, g2, e1, e2, e3, q1, by omega, by omega⟩
 ·by_cases hin : p ∈ pgs f' (d + 2) 0
  ·exact sub_ok' g1 p hin
  ·have hnp' : p ∉ a :: b :: pgs f (d + 1) 0 := fun e => hin (hperm.mem_iff.2 e)
   simp only [List.mem_cons, not_or] at hnp'
   rw [e4 p (fun e => hnp'.2.2 (by rw [e]; exact pgs_self)) hnp'.1 hnp'.2.1]; exact h.ok p hp
 ·rcases List.mem_cons.1 e with e | e
  ·omega
  ·exact haf e
 ·have hnp' : p ∉ a :: b :: pgs f (d + 1) 0 := fun e => hnp (hperm.mem_iff.2 e)
  simp only [List.mem_cons, not_or] at hnp'
  rw [e4 p (fun e => hnp'.2.2 (by rw [e]; exact pgs_self)) hnp'.1 hnp'.2.1]
  exact h.rest p hp hnp'.2.2
theorem rows_many {f : List Content} : ∀ {d : Nat} {n : Int} {lo : Key} {hi : Option Key}, sub f d n lo hi → n ≠ 0 → (pgs f d n).length + 1 ≤ (rws f d n).length
 | 1, n, lo, hi, h, hn => by
  obtain ⟨_, h2, l, h3, h4, h5⟩ := h
  have e : rws f 1 n = l := by rw [rws, h3]; simp
  have e2 : pgs f 1 n = [n] := by rw [pgs, h3]; rfl
  have := h2 hn
  rw [h3] at this
  rw [e, e2]; simp [sizeP] at this ⊢; omega
 | d + 2, n, lo, hi, h, hn => by
  obtain ⟨_, _, l, h3, h4, h5, h6⟩ := h
  have e : rws f (d + 2) n = l.flatMap fun k => rws f (d + 1) k.page := by rw [rws, h3]; rfl
  have e2 : pgs f (d + 2) n = n :: l.flatMap fun k => pgs f (d + 1) k.page := by rw [pgs, h3]
  have key : ∀ (t : List Kid), (∀ k ∈ t, k ∈ l) → (t.flatMap fun k => pgs f (d + 1) k.page).length + t.length ≤ (t.flatMap fun k => rws f (d + 1) k.page).length := by
   intro t
   induction t with
   | nil => intro _; simp
   | cons k t ih =>
    intro ht
    have hk := ht k (List.mem_cons_self ..)
    obtain ⟨a, b, hs⟩ := kidsOk_all h6 k hk
    have := rows_many hs (by have := h4.page k hk; omega)
    have := ih fun x hx => ht x (List.mem_cons_of_mem _ hx)
    simp only [List.flatMap_cons, List.length_append, List.length_cons]; omega
  have := key l fun k hk => hk
  have := h4.two
  rw [e, e2]; simp only [List.length_cons]; omega
theorem good_many {f : List Content} {D : Nat} (h : Good f D) : (pgs f D 0).length ≤ 1 ∨ (pgs f D 0).length + 1 ≤ (rws f D 0).length := by
 have ht := h.tree
 match D, ht with
 | 1, ht =>
  obtain ⟨_, h2, l, h3, h4, h5⟩ := ht
  left; rw [pgs, h3]; simp
 | d + 2, ht =>
  right
  obtain ⟨_, _, l, h3, h4, h5, h6⟩ := ht
  have e : rws f (d + 2) 0 = l.flatMap fun k => rws f (d + 1) k.page := by rw [rws, h3]; rfl
  have e2 : pgs f (d + 2) 0 = 0 :: l.flatMap fun k => pgs f (d + 1) k.page := by rw [pgs, h3]
  have key : ∀ (t : List Kid), (∀ k ∈ t, k ∈ l) → (t.flatMap fun k => pgs f (d + 1) k.page).length + t.length ≤ (t.flatMap fun k => rws f (d + 1) k.page).length := by
   intro t
   induction t with
   | nil => intro _; simp
   | cons k t ih =>
    intro ht
    have hk := ht k (List.mem_cons_self ..)
    obtain ⟨a, b, hs⟩ := kidsOk_all h6 k hk
    have := rows_many hs (by have := h4.page k hk; omega)
    have := ih fun x hx => ht x (List.mem_cons_of_mem _ hx)
    simp only [List.flatMap_cons, List.length_append, List.length_cons]; omega
  have := key l fun k hk => hk
  have := h4.two
  rw [e, e2]; simp only [List.length_cons]; omega
theorem many_rows {f : List Content} {D : Nat} (h : Good f D) (hf : (frees f).length ≤ 1) : 64 ≤ (rws f D 0).length := by
 have h1 := count64 h
 have h2 := good_many h
 omega
def stepP (f : List Content) (n : Int) (k : Key) (new : Bool) : Option (List Content × Int × List Group) :=
 if (new && fullP (pg f (kidAt (pg f n).kids (kidI (pg f n).kids k)).page)) = true then
  match frees f with
  | [] => none
  | m :: _ => some (withS f (srtS (splitS f n (kidI (pg f n).kids k) m)), (kidAt (pg (withS f (srtS (splitS f n (kidI (pg f n).kids k) m))) n).kids (kidI (pg (withS f (srtS (splitS f n (kidI (pg f n).kids k) m))) n).kids k)).page, [⟨srtS (splitS f n (kidI (pg f n).kids k) m)⟩])
 else some (f, (kidAt (pg f n).kids (kidI (pg f n).kids k)).page, [])
theorem fullP_size {f : List Content} {d : Nat} {n : Int} {lo : Key} {hi : Option Key} (h : sub f (d + 1) n lo hi) : fullP (pg f n) = decide (sizeP (pg f n) = 4) := by
 have : (pg f n).kind = 1 ∨ (pg f n).kind = 2 := by
  cases d with
  | zero => obtain ⟨_, _, l, h3, _⟩ := h; left; rw [h3]
  | succ d => obtain ⟨_, _, l, h3, _⟩ := h; right; rw [h3]
 unfold fullP
 rcases this with h | h <;> simp [h]
def Stp (f : List Content) (D d : Nat) (n : Int) (k : Key) (new : Bool) (f' : List Content) (n' : Int) (G : List Group) : Prop :=
 On f' D d n' k ∧ (new = true → sizeP (pg f' n') ≤ 3) ∧ rws f' D 0 = rws f D 0 ∧ Chain (rws f D 0) f G f'
theorem stepP_on {f : List Content} {D d : Nat} {n : Int} {k : Key} {new : Bool} (h : On f D (d + 2) n k) (hs : new = true → sizeP (pg f n) ≤ 3) :
  (new = true ∧ frees f = [] ∧ stepP f n k new = none) ∨ ∃ f' n' G, stepP f n k new = some (f', n', G) ∧ Stp f D (d + 1) n k new f' n' G ∧ ∃ u v, (n' = u ∨ n' = v) ∧ ∀ g ∈ G, ∀ s ∈ g.sheets, s.page = n ∨ s.page = u ∨ s.page = v := by
 obtain ⟨l1, x, l2, hp, hI, hi, c1, c2, hd⟩ := h.kids
 have hkx : kidAt (pg f n).kids l1.length = x := by rw [hp]; exact kidAt_mid
 have hik : kidI (pg f n).kids k = l1.length := by rw [hp]; exact hi.symm
 have hd2 := hd
 obtain ⟨lx, hx', _, _, _, hx, _⟩ := hd2
 have hfx := fullP_size hx.tree
 unfold stepP
 simp only [hik, hkx, hfx]
 by_cases hf : (new && decide (sizeP (pg f x.page) = 4)) = true
 case neg =>
  rw [if_neg hf]
  refine Or.inr ⟨f, x.page, [], rfl, ⟨hd, fun e => ?_, rfl, rfl⟩, x.page, x.page, Or.inl rfl, by simp⟩
  rw [e, Bool.true_and, decide_eq_true_eq] at hf
  have := (con_of hx.tree).2.1
  omega
 rw [if_pos hf]
 rw [Bool.and_eq_true, decide_eq_true_eq] at hf
 cases hfr : frees f with
 | nil => exact Or.inl ⟨hf.1, rfl, rfl⟩
 | cons m t =>
  dsimp only
  have h3 : (l1 ++ x :: l2).length ≤ 3 := by have := hs hf.1; rw [hp] at this; simpa [sizeP] using this
  obtain ⟨g1, g2, g3, g4, g5, g6, g7, g8⟩ := split_on h hp c1 c2 h3 hf.2 (m := m) (by rw [hfr]; exact List.mem_cons_self ..)
  have hch := chain_one g1 g2.good g3
  generalize hf' : withS f (srtS (splitS f n l1.length m)) = f' at g2 g3 g4 g5 g6 hch ⊢
  have hI' : (l1 ++ x :: ⟨cutS (pg f x.page) 2, m⟩ :: l2).Pairwise fun a b => ltK a.least b.least = true := by
   obtain ⟨lo, hi', Q, R1, R2, h1, hw, _⟩ := g2
   obtain ⟨l, e, hl2, hl4, hK⟩ := inner_of h1.tree
   rw [g4] at e
   injection e with _ _ e
   rw [e]; exact (hK.inner h1.low hl2 hl4).1.rise
  have hgs : ∀ g ∈ [Group.mk (srtS (splitS f n l1.length m))], ∀ s ∈ g.sheets, s.page = n ∨ s.page = x.page ∨ s.page = m := fun g hg s hs => by
   cases List.mem_singleton.1 hg
   have hs' := (srtS_perm _).mem_iff.1 hs
   rw [splitS_eq hp] at hs'
   simp only [List.mem_cons, List.not_mem_nil, or_false] at hs'
   rcases hs' with rfl | rfl | rfl
   ·exact Or.inl rfl
   ·exact Or.inr (Or.inl rfl)
   ·exact Or.inr (Or.inr rfl)
  cases hlt : ltK k (cutS (pg f x.page) 2) with
  | true =>
   have c2' : ∀ y t', (⟨cutS (pg f x.page) 2, m⟩ :: l2 : List Kid) = y :: t' → ltK k y.least = true := fun y t' e => by cases e; exact hlt
   have hk' := kidI_of hI' c1 c2'
   refine Or.inr ⟨f', x.page, _, ?_, ⟨g2.down g4 c1 c2', fun _ => by rw [g5]; omega, g3, hch⟩, x.page, m, Or.inl rfl, hgs⟩
   rw [g4]; simp only; rw [hk', kidAt_mid]
  | false =>
   have e' : l1 ++ x :: ⟨cutS (pg f x.page) 2, m⟩ :: l2 = (l1 ++ [x]) ++ ⟨cutS (pg f x.page) 2, m⟩ :: l2 := by simp
   rw [e'] at hI' g4
   have hk' := kidI_of hI' (fun _ => hlt) c2
   refine Or.inr ⟨f', m, _, ?_, ⟨g2.down g4 (fun _ => hlt) c2, fun _ => by rw [g6]; omega, g3, hch⟩, x.page, m, Or.inr rfl, hgs⟩
   rw [g4]; simp only; rw [hk', kidAt_mid]
def putW (k : Key) (new : Bool) : Nat → List Content → Int → Option (List Content × Int × List Group)
 | 0, f, n => some (f, n, [])
 | d + 1, f, n => (stepP f n k new).bind fun y => (putW k new d y.1 y.2.1).map fun z => (z.1, z.2.1, y.2.2 ++ z.2.2)
theorem putW_on {k : Key} {new : Bool} : ∀ {d D : Nat} {f : List Content} {n : Int}, On f D (d + 1) n k → (new = true → sizeP (pg f n) ≤ 3) →
  (new = true ∧ putW k new d f n = none ∧ 64 ≤ (rws f D 0).length) ∨ ∃ f' n' G, putW k new d f n = some (f', n', G) ∧ Stp f D 1 n k new f' n' G ∧ ∃ T : List Int, T.length ≤ 2 * d ∧ n' ∈ n :: T ∧ ∀ g ∈ G, ∀ s ∈ g.sheets, s.page ∈ n :: T
 | 0, D, f, n, h, hs => Or.inr ⟨f, n, [], rfl, ⟨h, hs, rfl, rfl⟩, [], by simp, by simp, by simp⟩
 | d + 1, D, f, n, h, hs => by
  rcases stepP_on h hs with ⟨h1, h2, h3⟩ | ⟨f1, n1, G1, h1, ⟨h2, h3, h4, h5⟩, u, v, h6, h7⟩
  ·exact Or.inl ⟨h1, by rw [putW, h3]; rfl, by
    have hg := h.good
    have := many_rows hg (by rw [h2]; simp)
    exact this⟩
  ·rcases putW_on h2 h3 with ⟨g1, g2, g3⟩ | ⟨f2, n2, G2, g1, ⟨g2, g3, g4, g5⟩, T, g6, g7, g8⟩
   ·exact Or.inl ⟨g1, by rw [putW, h1]; simp [g2], by rw [← h4]; exact g3⟩
   ·refine Or.inr ⟨f2, n2, G1 ++ G2, by rw [putW, h1]; simp [g1], ⟨g2, g3, g4.trans h4, chain_app h5 (h4 ▸ g5)⟩, u :: v :: T, by simp only [List.length_cons]; omega, ?_, fun g hg s hs' => ?_⟩
    ·rcases List.mem_cons.1 g7 with e | e
     ·rw [e]; rcases h6 with e | e <;> rw [e] <;> simp
     ·simp [e]
    ·rcases List.mem_append.1 hg with hg | hg
     ·rcases h7 g hg s hs' with e | e | e <;> rw [e] <;> simp
     ·rcases List.mem_cons.1 (g8 g hg s hs') with e | e
      ·rw [e]; rcases h6 with e | e <;> rw [e] <;> simp
      ·simp [e]
end Go.Proofs.YtlcmdgpjiendmaaGreat
namespace Go.Proofs.YtlcmdgpjiendmaaGreat
open Go.Bur
set_option linter.unusedSimpArgs false
set_option linter.unusedVariables false
set_option maxRecDepth 100000
def one (n : Int) (l : List Row) : List Sheet := [⟨n, ⟨1, l, []⟩⟩]
theorem leaf_change {f : List Content} {D : Nat} {n : Int} {lo : Key} {hi : Option Key} {Q : List Int} {R1 R2 : List Row} {l l' : List Row} (h : At f D 1 n lo hi Q R1 R2) (hp : pg f n = ⟨1, l, []⟩) (h1 : LeafOk l') (h2 : ∀ r ∈ l', within r.key lo hi = true) (h3 : n ≠ 0 → 2 ≤ l'.length) :
  Grp f (one n l') ∧ Good (withS f (one n l')) D ∧ rws (withS f (one n l')) D 0 = R1 ++ (l' ++ R2) ∧ rws f D 0 = R1 ++ (l ++ R2) := by
 have hn := sub_page h.tree
 have hG : Grp f (one n l') := ⟨fun s hs => by cases List.mem_singleton.1 hs; exact hn, by simp [one]⟩
 have e1 : pg (withS f (one n l')) n = ⟨1, l', []⟩ := with_at h.len hG.rng hG.nodup _ (List.mem_singleton.2 rfl)
 have e2 : ∀ p, p ≠ n → pg (withS f (one n l')) p = pg f p := fun p hp => with_other h.len hG.rng fun s hs => by cases List.mem_singleton.1 hs; exact hp.symm
 have hpg : pgs f 1 n = [n] := by rw [pgs, hp]; rfl
 have hpg' : pgs (withS f (one n l')) 1 n = [n] := by rw [pgs, e1]; rfl
 have hr : rws f 1 n = l := by rw [rws, hp]; simp
 have hr' : rws (withS f (one n l')) 1 n = l' := by rw [rws, e1]; simp
 have hnd := h.nodup
 rw [hpg] at hnd
 have hA : At (withS f (one n l')) D 1 n lo hi Q R1 R2 := h.change (by rw [with_len]; exact h.len) (fun m hm => by
   by_cases e : m = n
   ·rw [e, e1]; exact (check_iff _).2 (Or.inr (Or.inl ⟨l', rfl, h1⟩))
   ·rw [e2 m e]; exact h.ok m hm) (fun q hq => e2 q fun e => (List.nodup_append.1 hnd).2.2 q hq n (List.mem_singleton.2 rfl) e) ⟨hn, fun e => by rw [e1]; simpa [sizeP] using h3 e, l', e1, h1, h2⟩ (by rw [hpg']; exact hnd) (fun m hm hnm => by
   rw [hpg'] at hnm
   rw [e2 m fun e => hnm (by rw [e]; exact List.mem_append_right _ (List.mem_singleton.2 rfl))]
   exact h.rest m hm (by rw [hpg]; exact hnm))
 have g1 := hA.good
 have g2 := h.good
 rw [hr'] at g1
 rw [hr] at g2
 exact ⟨hG, g1.1, g1.2, g2.2⟩
def putR (r : Row) (l : List Row) : List Row := insP r (others r.key l)
theorem putR_in {r x : Row} {pre post : List Row} (hx : x.key = r.key) (h : Cut r.key pre post) : putR r (pre ++ x :: post) = pre ++ r :: post := by
 unfold putR; rw [others_in hx h, insP_cut r pre post h]
theorem putR_new {r : Row} {pre post : List Row} (h : Cut r.key pre post) : putR r (pre ++ post) = pre ++ r :: post := by
 unfold putR; rw [others_cut h, insP_cut r pre post h]
theorem stand {l : List Row} (hs : Srt l) (k : Key) : (∃ pre x post, l = pre ++ x :: post ∧ x.key = k ∧ Cut k pre post ∧ findK l k = some x) ∨ ∃ pre post, l = pre ++ post ∧ Cut k pre post ∧ findK l k = none := by
 cases ha : at_ l k with
 | some i =>
  obtain ⟨pre, x, post, e, _, h3, h4⟩ := idx_split ha
  have hx : x.key = k := of_decide_eq_true h3
  subst e
  have hc := (srt_cut hs).1
  rw [hx] at hc
  exact Or.inl ⟨pre, x, post, rfl, hx, hc, by rw [findK_app, findK_none hc.ne1, findK_cons, if_pos hx]; rfl⟩
 | none =>
  obtain ⟨pre, post, e, hc, _⟩ := place hs ha
  refine Or.inr ⟨pre, post, e, hc, findK_none fun x hx => ?_⟩
  simpa using idx_none ha x hx
theorem findK_whole {l R1 R2 : List Row} {k : Key} (h1 : ∀ r ∈ R1, ltK r.key k = true) (h2 : ∀ r ∈ R2, ltK k r.key = true) : findK (R1 ++ (l ++ R2)) k = findK l k := findK_mid h1 h2
theorem On.leaf {f : List Content} {D : Nat} {n : Int} {k : Key} (h : On f D 1 n k) : ∃ l, pg f n = ⟨1, l, []⟩ ∧ LeafOk l ∧ (n ≠ 0 → 2 ≤ l.length) ∧ findK (rws f D 0) k = findK l k := by
 obtain ⟨lo, hi, Q, R1, R2, h, hw, h1, h2⟩ := h
 have hg := h.good.2
 obtain ⟨g1, g2, l, g3, g4, g5⟩ := h.tree
 have hr : rws f 1 n = l := by rw [rws, g3]; simp
 rw [hr] at hg
 exact ⟨l, g3, g4, fun e => by have := g2 e; rw [g3] at this; simpa [sizeP] using this, by rw [hg, findK_whole h1 h2]⟩
theorem putR_len {r : Row} {l : List Row} (hs : Srt l) : (putR r l).length = (if findK l r.key = none then l.length + 1 else l.length) := by
 rcases stand hs r.key with ⟨pre, x, post, rfl, hx, hc, hf⟩ | ⟨pre, post, rfl, hc, hf⟩
 ·rw [putR_in hx hc, hf, if_neg (by simp)]; simp
 ·rw [putR_new hc, hf, if_pos rfl]; simp; omega
theorem put_leaf {f : List Content} {D : Nat} {n : Int} {r : Row} (h : On f D 1 n r.key) (hr : okRow r = true) (hs : findK (rws f D 0) r.key = none → sizeP (pg f n) ≤ 3) {l : List Row} (hp : pg f n = ⟨1, l, []⟩) :
  Grp f (one n (putR r l)) ∧ Good (withS f (one n (putR r l))) D ∧ rws (withS f (one n (putR r l))) D 0 = putR r (rws f D 0) ∧ LeafOk (putR r l) := by
 obtain ⟨l0, g3, g4, g5, g6⟩ := h.leaf
 obtain rfl : l0 = l := by rw [hp] at g3; injection g3 with _ g3; exact g3.symm
 obtain ⟨lo, hi, Q, R1, R2, hA, hw, h1, h2⟩ := h
 have hlen := putR_len (r := r) g4.srt
 rw [g6] at hs
 obtain ⟨_, _, l1, g3', _, g5'⟩ := hA.tree
 obtain rfl : l1 = l0 := by rw [hp] at g3'; injection g3' with _ g3'; exact g3'.symm
 have key : ∃ pre post, Cut r.key pre post ∧ putR r l1 = pre ++ r :: post ∧ (∀ x ∈ pre, x ∈ l1) ∧ (∀ x ∈ post, x ∈ l1) ∧ Srt (pre ++ post) ∧ putR r (R1 ++ (l1 ++ R2)) = R1 ++ (putR r l1 ++ R2) := by
  have hcw : ∀ {pre post : List Row}, Cut r.key pre post → Cut r.key (R1 ++ pre) (post ++ R2) := fun hc => ⟨fun y hy => by
   rcases List.mem_append.1 hy with hy | hy
   ·exact h1 y hy
   ·exact hc.lo y hy, fun y hy => by
   rcases List.mem_append.1 hy with hy | hy
   ·exact hc.hi y hy
   ·exact h2 y hy⟩
  rcases stand g4.srt r.key with ⟨pre, x, post, e, hx, hc, _⟩ | ⟨pre, post, e, hc, _⟩
  ·refine ⟨pre, post, hc, by rw [e, putR_in hx hc], fun y hy => by rw [e]; exact List.mem_append_left _ hy, fun y hy => by rw [e]; exact List.mem_append_right _ (List.mem_cons_of_mem _ hy), (srt_cut (e ▸ g4.srt)).2, ?_⟩
   have := putR_in hx (hcw hc)
   rw [e, putR_in hx hc]
   simpa using this
  ·refine ⟨pre, post, hc, by rw [e, putR_new hc], fun y hy => by rw [e]; exact List.mem_append_left _ hy, fun y hy => by rw [e]; exact List.mem_append_right _ hy, e ▸ g4.srt, ?_⟩
   have := putR_new (hcw hc)
   rw [e, putR_new hc]
   simpa using this
 obtain ⟨pre, post, hc, e, m1, m2, hsrt, hwhole⟩ := key
 have hmem : ∀ x ∈ putR r l1, x = r ∨ x ∈ l1 := fun x hx => by
  rw [e] at hx
  rcases List.mem_append.1 hx with hx | hx
  ·exact Or.inr (m1 x hx)
  ·rcases List.mem_cons.1 hx with hx | hx
   ·exact Or.inl hx
   ·exact Or.inr (m2 x hx)
 have hL : LeafOk (putR r l1) := ⟨by
   rw [hlen]
   split
   ·rename_i hn
    have := hs hn
    rw [hp] at this; simp [sizeP] at this; omega
   ·exact g4.len, fun x hx => by
   rcases hmem x hx with rfl | hx
   ·exact hr
   ·exact g4.row x hx, by rw [e]; exact cut_srt hsrt hc⟩
 obtain ⟨q1, q2, q3, q4⟩ := leaf_change hA hp hL (fun x hx => by
  rcases hmem x hx with rfl | hx
  ·exact hw
  ·exact g5' x hx) (fun e => by rw [hlen]; have := g5 e; split <;> omega)
 exact ⟨q1, q2, by rw [q3, q4, hwhole], hL⟩
def wayP (f : List Content) (D : Nat) (k : Key) (new : Bool) : Option (List Content × Int × List Group) :=
 if (new && fullP (pg f 0)) = true then
  match frees f with
  | a :: b :: _ => (putW k new D (withS f (srtS (partS f a b))) 0).map fun z => (z.1, z.2.1, ⟨srtS (partS f a b)⟩ :: z.2.2)
  | _ => none
 else putW k new (D - 1) f 0
def newB (R : List Row) (k : Key) : Bool := (findK R k).isNone
theorem newB_iff {R : List Row} {k : Key} : newB R k = true ↔ findK R k = none := by
 unfold newB; cases findK R k <;> simp
theorem way_on {f : List Content} {D : Nat} {k : Key} {new : Bool} (h : Good f D) (hk : ltK k key0 = false) :
  (new = true ∧ wayP f D k new = none ∧ 60 ≤ (rws f D 0).length) ∨ ∃ f' n' G D', wayP f D k new = some (f', n', G) ∧ On f' D' 1 n' k ∧ (new = true → sizeP (pg f' n') ≤ 3) ∧ rws f' D' 0 = rws f D 0 ∧ Chain (rws f D 0) f G f' ∧
   ∃ T : List Int, T.length ≤ 2 * D ∧ n' ∈ 0 :: T ∧ ∀ g ∈ G, ∀ s ∈ g.sheets, s.page ∈ 0 :: T := by
 have hpos := h.pos
 obtain ⟨d, rfl⟩ : ∃ d, D = d + 1 := ⟨D - 1, by omega⟩
 have hf0 := fullP_size h.tree
 unfold wayP
 rw [hf0]
 by_cases hc : (new && decide (sizeP (pg f 0) = 4)) = true
 case neg =>
  rw [if_neg hc, Nat.add_sub_cancel]
  have hs : new = true → sizeP (pg f 0) ≤ 3 := fun e => by
   rw [e, Bool.true_and, decide_eq_true_eq] at hc
   have := (con_of h.tree).2.1
   omega
  rcases putW_on (On.root h hk) hs with ⟨g1, g2, g3⟩ | ⟨f', n', G, g1, ⟨g2, g3, g4, g5⟩, T, g6, g7, g8⟩
  ·exact Or.inl ⟨g1, g2, by omega⟩
  ·exact Or.inr ⟨f', n', G, d + 1, g1, g2, g3, g4, g5, T, by omega, g7, g8⟩
 rw [if_pos hc]
 rw [Bool.and_eq_true, decide_eq_true_eq] at hc
 match hfr : frees f with
 | [] => exact Or.inl ⟨hc.1, rfl, by have := many_rows h (by rw [hfr]; simp); omega⟩
 | [a] => exact Or.inl ⟨hc.1, rfl, by have := many_rows h (by rw [hfr]; simp); omega⟩
 | a :: b :: t =>
  dsimp only
  obtain ⟨q1, q2, q3, q4, q5, q6, q7, q8, q9⟩ := part_good h hc.2 hfr
  have hch := chain_one q1 q2 q3
  generalize hf' : withS f (srtS (partS f a b)) = f1 at q2 q3 q4 q5 q6 hch ⊢
  have hstep : stepP f1 0 k new = some (f1, (kidAt (pg f1 0).kids (kidI (pg f1 0).kids k)).page, []) ∧ ((kidAt (pg f1 0).kids (kidI (pg f1 0).kids k)).page = a ∨ (kidAt (pg f1 0).kids (kidI (pg f1 0).kids k)).page = b) := by
   have hx : (kidAt (pg f1 0).kids (kidI (pg f1 0).kids k)).page = a ∨ (kidAt (pg f1 0).kids (kidI (pg f1 0).kids k)).page = b := by
    rw [q4]
    simp only [kidI, List.tail_cons, List.takeWhile_cons, List.takeWhile_nil]
    cases ltK k (cutS (pg f 0) 2)
    ·right; rfl
    ·left; rfl
   refine ⟨?_, hx⟩
   unfold stepP
   rw [if_neg]
   have hsz : sizeP (pg f1 (kidAt (pg f1 0).kids (kidI (pg f1 0).kids k)).page) = 2 := by
    rcases hx with e | e <;> rw [e]
    ·rw [q5]; exact q7
    ·rw [q6]; exact q8
   unfold fullP
   rw [hsz]; simp
  rcases putW_on (On.root q2 hk) (new := new) (fun _ => by rw [q4]; simp [sizeP]) with ⟨g1, g2, g3⟩ | ⟨f', n', G, g1, ⟨g2, g3, g4, g5⟩, _⟩
  ·exact Or.inl ⟨g1, by rw [g2]; rfl, by rw [q3] at g3; omega⟩
  ·refine Or.inr ⟨f', n', _, d + 2, by rw [g1]; rfl, g2, g3, g4.trans q3, chain_app hch (q3 ▸ g5), ?_⟩
   rw [putW, hstep.1] at g1
   simp only [Option.bind_some, Option.map_eq_some_iff] at g1
   obtain ⟨z, g1, g1'⟩ := g1
   have hon : On f1 (d + 2) (d + 1) (kidAt (pg f1 0).kids (kidI (pg f1 0).kids k)).page k := by
    rcases stepP_on (On.root q2 hk) (new := new) (fun _ => by rw [q4]; simp [sizeP]) with ⟨_, _, e⟩ | ⟨_, _, _, e, st, _⟩
    ·rw [hstep.1] at e; cases e
    ·rw [hstep.1] at e; cases e; exact st.1
   have hsz : new = true → sizeP (pg f1 (kidAt (pg f1 0).kids (kidI (pg f1 0).kids k)).page) ≤ 3 := fun _ => by
    rcases hstep.2 with e | e <;> rw [e]
    ·rw [q5]; omega
    ·rw [q6]; omega
   rcases putW_on hon hsz with ⟨_, e, _⟩ | ⟨f2, n2, G2, e, _, T, t1, t2, t3⟩
   ·rw [e] at g1; cases g1
   ·rw [e] at g1
    cases g1
    obtain ⟨rfl, rfl, rfl⟩ : f2 = f' ∧ n2 = n' ∧ G2 = G := by simpa using g1'
    have hk2 : ∀ p, p ∈ (kidAt (pg f1 0).kids (kidI (pg f1 0).kids k)).page :: T → p ∈ 0 :: a :: b :: T := fun p hp => by
     rcases List.mem_cons.1 hp with e | e
     ·rw [e]; rcases hstep.2 with e | e <;> rw [e] <;> simp
     ·simp [e]
    refine ⟨a :: b :: T, by simp only [List.length_cons]; omega, hk2 _ t2, fun g hg s hs => ?_⟩
    rcases List.mem_cons.1 hg with rfl | hg
    ·have := (srtS_perm _).mem_iff.1 hs
     simp only [partS, List.mem_cons, List.not_mem_nil, or_false] at this
     rcases this with rfl | rfl | rfl <;> simp
    ·exact hk2 _ (t3 g hg s hs)
end Go.Proofs.YtlcmdgpjiendmaaGreat
namespace Go.Proofs.YtlcmdgpjiendmaaGreat
open Go.Bur
set_option linter.unusedSimpArgs false
set_option linter.unusedVariables false
set_option maxRecDepth 100000
theorem grp3 {f : List Content} (hf : f.length = 64) {n a b : Int} {c1 c2 c3 : Content} (hn : 0 ≤ n ∧ n < 64) (ha : 0 ≤ a ∧ a < 64) (hb : 0 ≤ b ∧ b < 64) (h1 : a ≠ n) (h2 : b ≠ n) (h3 : a ≠ b) :
  Grp f [⟨n, c1⟩, ⟨a, c2⟩, ⟨b, c3⟩] ∧ pg (withS f (srtS [⟨n, c1⟩, ⟨a, c2⟩, ⟨b, c3⟩])) n = c1 ∧ pg (withS f (srtS [⟨n, c1⟩, ⟨a, c2⟩, ⟨b, c3⟩])) a = c2 ∧ pg (withS f (srtS [⟨n, c1⟩, ⟨a, c2⟩, ⟨b, c3⟩])) b = c3 ∧
  (∀ p, p ≠ n → p ≠ a → p ≠ b → pg (withS f (srtS [⟨n, c1⟩, ⟨a, c2⟩, ⟨b, c3⟩])) p = pg f p) ∧ (withS f (srtS [⟨n, c1⟩, ⟨a, c2⟩, ⟨b, c3⟩])).length = 64 := by
 have hG : Grp f [⟨n, c1⟩, ⟨a, c2⟩, ⟨b, c3⟩] := by
  refine ⟨fun s hs => ?_, ?_⟩
  ·simp only [List.mem_cons, List.not_mem_nil, or_false] at hs
   rcases hs with rfl | rfl | rfl
   ·exact hn
   ·exact ha
   ·exact hb
  ·simp only [List.map_cons, List.map_nil, List.nodup_cons, List.mem_cons, List.not_mem_nil, or_false, not_or, List.nodup_nil, and_true, not_false_eq_true]
   exact ⟨⟨fun e => h1 e.symm, fun e => h2 e.symm⟩, h3⟩
 obtain ⟨t1, t2⟩ := three hf hG.rng hG.nodup
 refine ⟨hG, t1 _ (List.mem_cons_self ..), t1 _ (List.mem_cons_of_mem _ (List.mem_cons_self ..)), t1 _ (List.mem_cons_of_mem _ (List.mem_cons_of_mem _ (List.mem_cons_self ..))), fun p q1 q2 q3 => t2 p fun s hs => ?_, by rw [with_len]; exact hf⟩
 simp only [List.mem_cons, List.not_mem_nil, or_false] at hs
 rcases hs with rfl | rfl | rfl
 ·exact q1.symm
 ·exact q2.symm
 ·exact q3.symm
theorem At.pair {f : List Content} {D d : Nat} {n : Int} {lo : Key} {hi : Option Key} {Q : List Int} {R1 R2 : List Row} (h : At f D (d + 2) n lo hi Q R1 R2) {l1 l2 : List Kid} {u v : Kid} (hp : pg f n = ⟨2, [], l1 ++ u :: v :: l2⟩) :
  Pair f d n lo hi l1 l2 u v ∧ u.page ∈ pgs f (d + 2) n ∧ v.page ∈ pgs f (d + 2) n := by
 refine ⟨mk_pair h.tree hp h.low (List.nodup_append.1 h.nodup).2.1, ?_, ?_⟩ <;> (rw [pgs_list (d := d + 1) hp]; exact List.mem_cons_of_mem _ (kid_self (by simp)))
theorem kinds_con {f : List Content} {d : Nat} {lo lo' : Key} {hi hi' : Option Key} {a b : Content} (ha : conS f d lo hi a) (hb : conS f d lo' hi' b) : alikeP a b = true := by
 cases d with
 | zero => obtain ⟨l, rfl, _⟩ := ha; obtain ⟨m, rfl, _⟩ := hb; rfl
 | succ d => obtain ⟨l, rfl, _⟩ := ha; obtain ⟨m, rfl, _⟩ := hb; rfl
theorem level_on {f : List Content} {D d m : Nat} {n : Int} {k : Key} (h : On f D (d + 2) n k) {l1 l2 : List Kid} {u v : Kid} (hp : pg f n = ⟨2, [], l1 ++ u :: v :: l2⟩) {B : Content} (hB : bothC (pg f u.page) (pg f v.page) v.least = B) (h2 : 2 ≤ m) (h4 : m ≤ 4) (h2' : m + 2 ≤ sizeP B) (h4' : sizeP B ≤ m + 4) {f' : List Content} (hf' : withS f (srtS [⟨n, ⟨2, [], l1 ++ u :: ⟨cutS B m, v.page⟩ :: l2⟩⟩, ⟨u.page, cutA B m⟩, ⟨v.page, cutB B m⟩]) = f') :
  Grp f [⟨n, ⟨2, [], l1 ++ u :: ⟨cutS B m, v.page⟩ :: l2⟩⟩, ⟨u.page, cutA B m⟩, ⟨v.page, cutB B m⟩] ∧ On f' D (d + 2) n k ∧ rws f' D 0 = rws f D 0 ∧ pg f' n = ⟨2, [], l1 ++ u :: ⟨cutS B m, v.page⟩ :: l2⟩ ∧ pg f' u.page = cutA B m ∧ pg f' v.page = cutB B m := by
 obtain ⟨lo, hi, Q, R1, R2, h, hw, hr1, hr2⟩ := h
 obtain ⟨P, hu, hv⟩ := h.pair hp
 have hnd := (List.nodup_append.1 h.nodup).2.1
 obtain ⟨hG, e1, e2, e3, e4, hlen⟩ := grp3 h.len (c1 := ⟨2, [], l1 ++ u :: ⟨cutS B m, v.page⟩ :: l2⟩) (c2 := cutA B m) (c3 := cutB B m) (sub_page h.tree) (sub_in h.tree _ hu).1 (sub_in h.tree _ hv).1 P.xn P.yn P.xy
 rw [hf'] at e1 e2 e3 e4 hlen
 obtain ⟨g1, g2, g3, g4⟩ := level_step h.tree hp h.low hnd hB h2 h4 h2' h4' e1 e2 e3 e4
 have hdj := (List.nodup_append.1 h.nodup).2.2
 have hperm : (Q ++ pgs f' (d + 2) n).Perm (Q ++ pgs f (d + 2) n) := g3.append_left Q
 have hne : ∀ p, p ∉ pgs f (d + 2) n → pg f' p = pg f p := fun p hp => e4 p (fun e => hp (by rw [e]; exact pgs_self)) (fun e => hp (by rw [e]; exact hu)) (fun e => hp (by rw [e]; exact hv))
 have hA : At f' D (d + 2) n lo hi Q R1 R2 := h.change hlen (fun p hp' => by
   by_cases hin : p ∈ pgs f' (d + 2) n
   ·exact sub_ok' g1 p hin
   ·rw [hne p fun e => hin (g3.mem_iff.2 e)]; exact h.ok p hp') (fun q hq => hne q fun e => hdj q hq q e rfl) g1 (hperm.nodup_iff.2 h.nodup) (fun p hp' hnp => by
   have hnp' : p ∉ Q ++ pgs f (d + 2) n := fun e => hnp (hperm.mem_iff.2 e)
   rw [hne p fun e => hnp' (List.mem_append_right _ e)]
   exact h.rest p hp' hnp')
 exact ⟨hG, ⟨lo, hi, Q, R1, R2, hA, hw, hr1, hr2⟩, by rw [hA.good.2, h.good.2, g2], e1, e2, e3⟩
theorem join_on {f : List Content} {D d : Nat} {n : Int} {k : Key} (h : On f D (d + 2) n k) {l1 l2 : List Kid} {u v : Kid} (hp : pg f n = ⟨2, [], l1 ++ u :: v :: l2⟩) {B : Content} (hB : bothC (pg f u.page) (pg f v.page) v.least = B) (h3 : 3 ≤ (l1 ++ u :: v :: l2).length) (h4 : sizeP B ≤ 4) {f' : List Content} (hf' : withS f (srtS [⟨n, ⟨2, [], l1 ++ u :: l2⟩⟩, ⟨u.page, B⟩, ⟨v.page, cont0⟩]) = f') :
  Grp f [⟨n, ⟨2, [], l1 ++ u :: l2⟩⟩, ⟨u.page, B⟩, ⟨v.page, cont0⟩] ∧ On f' D (d + 2) n k ∧ rws f' D 0 = rws f D 0 ∧ pg f' n = ⟨2, [], l1 ++ u :: l2⟩ ∧ pg f' u.page = B := by
 obtain ⟨lo, hi, Q, R1, R2, h, hw, hr1, hr2⟩ := h
 obtain ⟨P, hu, hv⟩ := h.pair hp
 have hnd := (List.nodup_append.1 h.nodup).2.1
 obtain ⟨hG, e1, e2, e3, e4, hlen⟩ := grp3 h.len (c1 := ⟨2, [], l1 ++ u :: l2⟩) (c2 := B) (c3 := cont0) (sub_page h.tree) (sub_in h.tree _ hu).1 (sub_in h.tree _ hv).1 P.xn P.yn P.xy
 rw [hf'] at e1 e2 e3 e4 hlen
 obtain ⟨g1, g2, g3⟩ := join_step h.tree hp h.low hnd hB h3 h4 e1 e2 e4
 have hdj := (List.nodup_append.1 h.nodup).2.2
 have hperm : (Q ++ pgs f (d + 2) n).Perm (v.page :: (Q ++ pgs f' (d + 2) n)) := (g3.append_left Q).trans List.perm_middle
 have hne : ∀ p, p ∉ pgs f (d + 2) n → pg f' p = pg f p := fun p hp => e4 p (fun e => hp (by rw [e]; exact pgs_self)) (fun e => hp (by rw [e]; exact hu)) (fun e => hp (by rw [e]; exact hv))
 have hkind : (pg f' v.page).kind = 0 := by rw [e3]; rfl
 have hA : At f' D (d + 2) n lo hi Q R1 R2 := h.change hlen (fun p hp' => by
   by_cases hin : p ∈ pgs f' (d + 2) n
   ·exact sub_ok' g1 p hin
   ·by_cases hv' : p = v.page
    ·rw [hv', e3]; rfl
    ·rw [hne p fun e => by
      rcases List.mem_cons.1 (g3.mem_iff.1 e) with e | e
      ·exact hv' e
      ·exact hin e]
     exact h.ok p hp') (fun q hq => hne q fun e => hdj q hq q e rfl) g1 (List.nodup_cons.1 (hperm.nodup_iff.1 h.nodup)).2 (fun p hp' hnp => by
   by_cases hv' : p = v.page
   ·rw [hv']; exact hkind
   ·have hnp' : p ∉ Q ++ pgs f (d + 2) n := fun e => by
     rcases List.mem_cons.1 (hperm.mem_iff.1 e) with e | e
     ·exact hv' e
     ·exact hnp e
    rw [hne p fun e => hnp' (List.mem_append_right _ e)]
    exact h.rest p hp' hnp')
 exact ⟨hG, ⟨lo, hi, Q, R1, R2, hA, hw, hr1, hr2⟩, by rw [hA.good.2, h.good.2, g2], e1, e2⟩
theorem root_good {f : List Content} {d : Nat} (h : Good f (d + 2)) {u v : Kid} (hp : pg f 0 = ⟨2, [], [u, v]⟩) {B : Content} (hB : bothC (pg f u.page) (pg f v.page) v.least = B) (h4 : sizeP B ≤ 4) {f' : List Content} (hf' : withS f (srtS [⟨0, B⟩, ⟨u.page, cont0⟩, ⟨v.page, cont0⟩]) = f') :
  Grp f [⟨0, B⟩, ⟨u.page, cont0⟩, ⟨v.page, cont0⟩] ∧ Good f' (d + 1) ∧ rws f' (d + 1) 0 = rws f (d + 2) 0 := by
 obtain ⟨P, hu, hv⟩ := (At.root h).pair (l1 := []) (l2 := []) hp
 obtain ⟨hG, e1, e2, e3, e4, hlen⟩ := grp3 h.len (c1 := B) (c2 := cont0) (c3 := cont0) (sub_page h.tree) (sub_in h.tree _ hu).1 (sub_in h.tree _ hv).1 P.xn P.yn P.xy
 rw [hf'] at e1 e2 e3 e4 hlen
 obtain ⟨g1, g2, g3⟩ := root_step h.tree hp h.nodup hB h4 e1 e4
 have hnd := g3.nodup_iff.1 h.nodup
 have hz : ∀ p, p = u.page ∨ p = v.page → pg f' p = cont0 := fun p hp => by rcases hp with rfl | rfl; exact e2; exact e3
 have hne : ∀ p, p ∉ pgs f (d + 2) 0 → pg f' p = pg f p := fun p hp => e4 p (fun e => hp (by rw [e]; exact pgs_self)) (fun e => hp (by rw [e]; exact hu)) (fun e => hp (by rw [e]; exact hv))
 refine ⟨hG, ⟨hlen, fun p hp' => ?_, g1, (List.nodup_cons.1 (List.nodup_cons.1 hnd).2).2, fun p hp' hnp => ?_⟩, g2⟩
 ·by_cases hin : p ∈ pgs f' (d + 1) 0
  ·exact sub_ok' g1 p hin
  ·by_cases hv' : p = u.page ∨ p = v.page
   ·rw [hz p hv']; rfl
   ·rw [hne p fun e => by
     rcases List.mem_cons.1 (g3.mem_iff.1 e) with e | e
     ·exact hv' (Or.inl e)
     ·rcases List.mem_cons.1 e with e | e
      ·exact hv' (Or.inr e)
      ·exact hin e]
    exact h.ok p hp'
 ·by_cases hv' : p = u.page ∨ p = v.page
  ·rw [hz p hv']; rfl
  ·have hnp' : p ∉ pgs f (d + 2) 0 := fun e => by
    rcases List.mem_cons.1 (g3.mem_iff.1 e) with e | e
    ·exact hv' (Or.inl e)
    ·rcases List.mem_cons.1 e with e | e
     ·exact hv' (Or.inr e)
     ·exact hnp e
   rw [hne p hnp']
   exact h.rest p hp' hnp'
theorem drop_right {α : Type} {a b : List α} {m : Nat} (h : a.length ≤ m) : (a ++ b).drop m = b.drop (m - a.length) := by
 rw [List.drop_append, List.drop_eq_nil_of_le h, List.nil_append]
theorem lvl_up {f : List Content} {d m : Nat} {lo s : Key} {hi : Option Key} {a b : Content} (ha : conS f d lo (some s) a) (hb : conS f d s hi b) (h1 : sizeP a < m) (h2 : m < sizeP a + sizeP b) : ltK (cutS (bothC a b s) m) s = false := by
 cases d with
 | zero =>
  obtain ⟨la, rfl, a1, a2, a3⟩ := ha
  obtain ⟨lb, rfl, b1, b2, b3⟩ := hb
  simp only [sizeP, List.length_nil, Nat.add_zero] at h1 h2
  obtain ⟨y, t, e⟩ := drop_some (l := lb) (m := m - la.length) (by omega)
  have hs : cutS (bothC ⟨1, la, []⟩ ⟨1, lb, []⟩ s) m = y.key := by simp [cutS, bothC, hd0, stepC, drop_right (show la.length ≤ m by omega), e]
  rw [hs]
  exact (within_iff.1 (b3 y (List.mem_of_mem_drop (by rw [e]; exact List.mem_cons_self ..)))).1
 | succ d =>
  obtain ⟨la, rfl, a1⟩ := ha
  obtain ⟨lb, rfl, b1⟩ := hb
  simp only [sizeP, List.length_nil, Nat.zero_add] at h1 h2
  obtain ⟨z, w, rfl⟩ : ∃ z w, lb = z :: w := by
   cases lb with
   | nil => simp at h2; omega
   | cons z w => exact ⟨z, w, rfl⟩
  obtain ⟨j, hj⟩ : ∃ j, m - la.length = j + 1 := ⟨m - la.length - 1, by omega⟩
  obtain ⟨y, t, e⟩ := drop_some (l := w) (m := j) (by simp only [List.length_cons] at h2; omega)
  have hs : cutS (bothC ⟨2, [], la⟩ ⟨2, [], z :: w⟩ s) m = y.least := by simp [cutS, bothC, hd0, stepC, drop_right (show la.length ≤ m by omega), hj, e]
  rw [hs]
  have hy : y ∈ w := List.mem_of_mem_drop (by rw [e]; exact List.mem_cons_self ..)
  exact lt_asymm ((kids_lt b1.ok fun k hk => by have := b1.page k hk; omega).1 y hy).1
theorem lvl_dn {f : List Content} {d m : Nat} {lo s : Key} {hi : Option Key} {a b : Content} (ha : conS f d lo (some s) a) (hb : conS f d s hi b) (h0 : 0 < m) (h1 : m < sizeP a) : ltK (cutS (bothC a b s) m) s = true := by
 cases d with
 | zero =>
  obtain ⟨la, rfl, a1, a2, a3⟩ := ha
  obtain ⟨lb, rfl, b1, b2, b3⟩ := hb
  simp only [sizeP, List.length_nil, Nat.add_zero] at h1
  obtain ⟨y, t, e⟩ := drop_some h1
  have hs : cutS (bothC ⟨1, la, []⟩ ⟨1, lb, []⟩ s) m = y.key := by simp [cutS, bothC, hd0, stepC, List.drop_append_of_le_length (show m ≤ la.length by omega), e]
  rw [hs]
  exact (within_iff.1 (a3 y (List.mem_of_mem_drop (by rw [e]; exact List.mem_cons_self ..)))).2 s rfl
 | succ d =>
  obtain ⟨la, rfl, a1⟩ := ha
  obtain ⟨lb, rfl, b1⟩ := hb
  simp only [sizeP, List.length_nil, Nat.zero_add] at h1
  obtain ⟨y, t, e⟩ := drop_some h1
  have hs : cutS (bothC ⟨2, [], la⟩ ⟨2, [], lb⟩ s) m = y.least := by simp [cutS, bothC, stepC, List.drop_append_of_le_length (show m ≤ la.length by omega), e]
  rw [hs]
  have hy : y ∈ la.tail := by
   obtain ⟨j, rfl⟩ : ∃ j, m = j + 1 := ⟨m - 1, by omega⟩
   rw [← List.drop_one]
   have e' : (la.drop 1).drop j = y :: t := by rw [List.drop_drop, Nat.add_comm]; exact e
   exact List.mem_of_mem_drop (by rw [e']; exact List.mem_cons_self ..)
  exact ((kids_lt a1.ok fun k hk => by have := a1.page k hk; omega).1 y hy).2 s rfl
end Go.Proofs.YtlcmdgpjiendmaaGreat
namespace Go.Proofs.YtlcmdgpjiendmaaGreat
open Go.Bur
set_option linter.unusedSimpArgs false
set_option linter.unusedVariables false
set_option maxRecDepth 100000
theorem depth_uniq {f : List Content} : ∀ {a b : Nat} {n : Int} {lo lo' : Key} {hi hi' : Option Key}, sub f a n lo hi → sub f b n lo' hi' → a = b := by
 intro a
 induction a with
 | zero => intro b n lo lo' hi hi' h; exact h.elim
 | succ a ih =>
  intro b n lo lo' hi hi' h g
  cases b with
  | zero => exact g.elim
  | succ b =>
   cases a with
   | zero =>
    cases b with
    | zero => rfl
    | succ b =>
     obtain ⟨_, _, l, e, _⟩ := h
     obtain ⟨_, _, m, e', _⟩ := g
     rw [e] at e'; cases e'
   | succ a =>
    cases b with
    | zero =>
     obtain ⟨_, _, l, e, _⟩ := h
     obtain ⟨_, _, m, e', _⟩ := g
     rw [e] at e'; cases e'
    | succ b =>
     obtain ⟨l, e, h2, _, h4⟩ := inner_of h
     obtain ⟨m, e', _, _, g4⟩ := inner_of g
     rw [e] at e'
     injection e' with _ _ e'
     subst e'
     obtain ⟨k, t, el⟩ : ∃ k t, l = k :: t := by
      match l, h2 with
      | k :: t, _ => exact ⟨k, t, rfl⟩
     have hk : k ∈ l := by rw [el]; exact List.mem_cons_self ..
     obtain ⟨_, _, s1⟩ := kidsOk_all h4.ok k hk
     obtain ⟨_, _, s2⟩ := kidsOk_all g4.ok k hk
     have := ih s1 s2
     omega
theorem On.inner {f : List Content} {D d : Nat} {n : Int} {k : Key} (h : On f D (d + 2) n k) {l : List Kid} (hp : pg f n = ⟨2, [], l⟩) : InnerOk l := by
 obtain ⟨lo, hi, Q, R1, R2, h1, hw, _⟩ := h
 obtain ⟨l', e, hl2, hl4, hK⟩ := inner_of h1.tree
 rw [hp] at e
 injection e with _ _ e
 rw [e]; exact (hK.inner h1.low hl2 hl4).1
theorem On.zero {f : List Content} {D d : Nat} {k : Key} (h : On f D d 0 k) : D = d := by
 have hg := h.good
 obtain ⟨lo, hi, Q, R1, R2, h1, hw, _⟩ := h
 exact depth_uniq hg.tree h1.tree
def nextPg (f : List Content) (n : Int) (k : Key) : Int := (kidAt (pg f n).kids (kidI (pg f n).kids k)).page
def feedAt (l : List Kid) (i : Nat) : Nat := if i + 1 = l.length then i else i + 1
def joinS (f : List Content) (n : Int) (a : Nat) : List Sheet :=
 let l := (pg f n).kids
 [⟨n, ⟨2, [], l.take a ++ l.drop (a + 1)⟩⟩, ⟨(kidAt l (a - 1)).page, bothC (pg f (kidAt l (a - 1)).page) (pg f (kidAt l a).page) (kidAt l a).least⟩, ⟨(kidAt l a).page, cont0⟩]
def rootS (f : List Content) (n : Int) (a : Nat) : List Sheet :=
 let l := (pg f n).kids
 [⟨0, bothC (pg f (kidAt l (a - 1)).page) (pg f (kidAt l a).page) (kidAt l a).least⟩, ⟨(kidAt l (a - 1)).page, cont0⟩, ⟨(kidAt l a).page, cont0⟩]
def levS (f : List Content) (n : Int) (a : Nat) : List Sheet :=
 let l := (pg f n).kids
 let A := pg f (kidAt l (a - 1)).page
 let C := pg f (kidAt l a).page
 let B := bothC A C (kidAt l a).least
 [⟨n, ⟨2, [], l.take a ++ ⟨cutS B (cutM A C), (kidAt l a).page⟩ :: l.drop (a + 1)⟩⟩, ⟨(kidAt l (a - 1)).page, cutA B (cutM A C)⟩, ⟨(kidAt l a).page, cutB B (cutM A C)⟩]
def sizeB (f : List Content) (n : Int) (a : Nat) : Nat := sizeP (pg f (kidAt (pg f n).kids (a - 1)).page) + sizeP (pg f (kidAt (pg f n).kids a).page)
def feedP (f : List Content) (n : Int) (k : Key) : List Content × Int × List Group :=
 let l := (pg f n).kids
 let a := feedAt l (kidI l k)
 if sizeP (pg f (nextPg f n k)) ≤ 2 then
  if sizeB f n a ≤ 4 then
   if n = 0 ∧ l.length = 2 then (withS f (srtS (rootS f n a)), 0, [⟨srtS (rootS f n a)⟩])
   else (withS f (srtS (joinS f n a)), nextPg (withS f (srtS (joinS f n a))) n k, [⟨srtS (joinS f n a)⟩])
  else (withS f (srtS (levS f n a)), nextPg (withS f (srtS (levS f n a))) n k, [⟨srtS (levS f n a)⟩])
 else (f, nextPg f n k, [])
theorem feed_pair {l : List Kid} (h2 : 2 ≤ l.length) {l1 l2 : List Kid} {x : Kid} (e : l = l1 ++ x :: l2) : ∃ p1 u v p2, l = p1 ++ u :: v :: p2 ∧ feedAt l l1.length = p1.length + 1 ∧ ((u = x ∧ p1 = l1 ∧ l2 = v :: p2) ∨ (v = x ∧ l1 = p1 ++ [u] ∧ p2 = [] ∧ l2 = [])) := by
 cases l2 with
 | nil =>
  have hne : l1 ≠ [] := fun h => by subst h; subst e; simp at h2
  refine ⟨l1.dropLast, l1.getLast hne, x, [], ?_, ?_, Or.inr ⟨rfl, (List.dropLast_concat_getLast hne).symm, rfl, rfl⟩⟩
  ·rw [e]
   conv => lhs; rw [← List.dropLast_concat_getLast hne]
   simp
  ·unfold feedAt
   rw [if_pos (by rw [e]; simp), List.length_dropLast]
   have := List.length_pos_iff.2 hne
   omega
 | cons v p2 =>
  refine ⟨l1, x, v, p2, e, ?_, Or.inl ⟨rfl, rfl, rfl⟩⟩
  unfold feedAt
  rw [if_neg (by rw [e]; simp)]
theorem kidAt_u {p1 p2 : List Kid} {u v : Kid} : kidAt (p1 ++ u :: v :: p2) (p1.length + 1 - 1) = u := by simp [kidAt]
theorem kidAt_v {p1 p2 : List Kid} {u v : Kid} : kidAt (p1 ++ u :: v :: p2) (p1.length + 1) = v := by
 rw [show p1 ++ u :: v :: p2 = (p1 ++ [u]) ++ v :: p2 by simp, show p1.length + 1 = (p1 ++ [u]).length by simp, kidAt_mid]
theorem take_v {p1 p2 : List Kid} {u v : Kid} : (p1 ++ u :: v :: p2).take (p1.length + 1) = p1 ++ [u] := by
 rw [show p1 ++ u :: v :: p2 = (p1 ++ [u]) ++ v :: p2 by simp, show p1.length + 1 = (p1 ++ [u]).length by simp, List.take_left]
theorem drop_v {p1 p2 : List Kid} {u v : Kid} : (p1 ++ u :: v :: p2).drop (p1.length + 1 + 1) = p2 := by
 rw [show p1 ++ u :: v :: p2 = (p1 ++ [u, v]) ++ p2 by simp, show p1.length + 1 + 1 = (p1 ++ [u, v]).length by simp, List.drop_left]
theorem feed_on {f : List Content} {D d : Nat} {n : Int} {k : Key} (h : On f D (d + 2) n k) (hs : n ≠ 0 → 3 ≤ sizeP (pg f n)) :
  ∃ D', On (feedP f n k).1 D' (d + 1) (feedP f n k).2.1 k ∧ ((feedP f n k).2.1 ≠ 0 → 3 ≤ sizeP (pg (feedP f n k).1 (feedP f n k).2.1)) ∧ rws (feedP f n k).1 D' 0 = rws f D 0 ∧ Chain (rws f D 0) f (feedP f n k).2.2 (feedP f n k).1 ∧
   ∃ u v, ((feedP f n k).2.1 = u ∨ (feedP f n k).2.1 = v ∨ (feedP f n k).2.1 = n) ∧ ∀ g ∈ (feedP f n k).2.2, ∀ s ∈ g.sheets, s.page = n ∨ s.page = u ∨ s.page = v := by
 obtain ⟨l1, x, l2, hp, hI, hi, c1, c2, hd⟩ := h.kids
 have hik : kidI (pg f n).kids k = l1.length := by rw [hp]; exact hi.symm
 have hnx : nextPg f n k = x.page := by unfold nextPg; rw [hik, hp]; exact congrArg (·.page) kidAt_mid
 obtain ⟨p1, u, v, p2, e, ha, hcase⟩ := feed_pair hI.two rfl
 have hp' : pg f n = ⟨2, [], p1 ++ u :: v :: p2⟩ := by rw [← e]; exact hp
 have hI' : InnerOk (p1 ++ u :: v :: p2) := e ▸ hI
 have haf : feedAt (pg f n).kids (kidI (pg f n).kids k) = p1.length + 1 := by rw [hik, hp]; exact ha
 have hsB : sizeB f n (p1.length + 1) = sizeP (pg f u.page) + sizeP (pg f v.page) := by unfold sizeB; rw [hp']; simp only; rw [kidAt_u, kidAt_v]
 have hh := h
 obtain ⟨lo, hiB, Q, R1, R2, hA, hw, hr1, hr2⟩ := hh
 obtain ⟨P, hu, hv⟩ := hA.pair hp'
 have hb := P.both.2.2.2
 have hxs : x = u ∨ x = v := by rcases hcase with ⟨a, _⟩ | ⟨a, _⟩; exact Or.inl a.symm; exact Or.inr a.symm
 have hx2 : 2 ≤ sizeP (pg f x.page) := by rcases hxs with e | e <;> rw [e]; exact P.x2; exact P.y2
 have hr := hI'.rise
 obtain ⟨_, rr, rm⟩ := List.pairwise_append.1 hr
 obtain ⟨ru, rv⟩ := List.pairwise_cons.1 rr
 obtain ⟨rv, _⟩ := List.pairwise_cons.1 rv
 have huv : ltK u.least v.least = true := ru v (List.mem_cons_self ..)
 have q := P.x2; have q2 := P.y2; have q3 := P.x4; have q4 := P.y4
 unfold feedP
 simp only [hnx, haf, hsB]
 by_cases hsm : sizeP (pg f x.page) ≤ 2
 case neg =>
  rw [if_neg hsm]
  exact ⟨D, hd, fun _ => by simp only; omega, rfl, rfl, x.page, x.page, Or.inl rfl, by simp⟩
 rw [if_pos hsm]
 by_cases hj : sizeP (pg f u.page) + sizeP (pg f v.page) ≤ 4
 ·rw [if_pos hj]
  by_cases hroot : n = 0 ∧ (pg f n).kids.length = 2
  ·rw [if_pos hroot]
   obtain ⟨rfl, hlen⟩ := hroot
   have hD := h.zero
   subst hD
   have hlen' : (p1 ++ u :: v :: p2).length = 2 := by rw [hp'] at hlen; exact hlen
   obtain ⟨rfl, rfl⟩ : p1 = [] ∧ p2 = [] := by
    simp only [List.length_append, List.length_cons] at hlen'
    exact ⟨List.eq_nil_of_length_eq_zero (by omega), List.eq_nil_of_length_eq_zero (by omega)⟩
   have hS : rootS f 0 ([] : List Kid).length.succ = [⟨0, bothC (pg f u.page) (pg f v.page) v.least⟩, ⟨u.page, cont0⟩, ⟨v.page, cont0⟩] := by unfold rootS; rw [hp']; rfl
   obtain ⟨g1, g2, g3⟩ := root_good h.good hp' rfl (by rw [hb]; exact hj) rfl
   rw [show ([] : List Kid).length + 1 = ([] : List Kid).length.succ from rfl, hS]
   refine ⟨d + 1, On.root g2 h.low, fun e => absurd rfl e, g3, chain_one g1 g2 g3, u.page, v.page, Or.inr (Or.inr rfl), fun g hg s hs => ?_⟩
   cases List.mem_singleton.1 hg
   have := (srtS_perm _).mem_iff.1 hs
   simp only [List.mem_cons, List.not_mem_nil, or_false] at this
   rcases this with rfl | rfl | rfl <;> simp
  ·rw [if_neg hroot]
   have hS : joinS f n (p1.length + 1) = [⟨n, ⟨2, [], p1 ++ u :: p2⟩⟩, ⟨u.page, bothC (pg f u.page) (pg f v.page) v.least⟩, ⟨v.page, cont0⟩] := by
    unfold joinS; rw [hp']; simp only; rw [kidAt_u, kidAt_v, take_v, drop_v]; simp
   have h3 : 3 ≤ (p1 ++ u :: v :: p2).length := by
    by_cases h0 : n = 0
    ·have := hI'.two
     have hne : ¬ (p1 ++ u :: v :: p2).length = 2 := fun e => hroot ⟨h0, by rw [hp']; exact e⟩
     omega
    ·have := hs h0; rw [hp'] at this; simpa [sizeP] using this
   obtain ⟨g1, g2, g3, g4, g5⟩ := join_on h hp' rfl h3 (by rw [hb]; exact hj) rfl
   rw [hS]
   have hch := chain_one g1 g2.good g3
   generalize hf' : withS f (srtS [⟨n, ⟨2, [], p1 ++ u :: p2⟩⟩, ⟨u.page, bothC (pg f u.page) (pg f v.page) v.least⟩, ⟨v.page, cont0⟩]) = f' at g2 g3 g4 g5 hch ⊢
   have c1' : p1 ≠ [] → ltK k u.least = false := fun hne => by
    rcases hcase with ⟨a, b, c⟩ | ⟨a, b, c⟩
    ·rw [a]; exact c1 (b ▸ hne)
    ·have := c1 (by rw [b]; simp)
     rw [← a] at this
     exact le_le (lt_asymm huv) this
   have c2' : ∀ y t, p2 = y :: t → ltK k y.least = true := fun y t ey => by
    rcases hcase with ⟨a, b, c⟩ | ⟨a, b, c, _⟩
    ·exact ltK_trans (c2 v p2 c) (rv y (by rw [ey]; exact List.mem_cons_self ..))
    ·rw [c] at ey; cases ey
   have hnext : nextPg f' n k = u.page := by
    unfold nextPg
    rw [g4]
    simp only
    rw [kidI_of (g2.inner g4).rise c1' c2', kidAt_mid]
   rw [hnext]
   refine ⟨D, g2.down g4 c1' c2', fun _ => by rw [g5, hb]; omega, g3, hch, u.page, v.page, Or.inl rfl, fun g hg s hs => ?_⟩
   cases List.mem_singleton.1 hg
   have := (srtS_perm _).mem_iff.1 hs
   simp only [List.mem_cons, List.not_mem_nil, or_false] at this
   rcases this with rfl | rfl | rfl <;> simp
 ·rw [if_neg hj]
  generalize hm : cutM (pg f u.page) (pg f v.page) = m
  have hS : levS f n (p1.length + 1) = [⟨n, ⟨2, [], p1 ++ u :: ⟨cutS (bothC (pg f u.page) (pg f v.page) v.least) m, v.page⟩ :: p2⟩⟩, ⟨u.page, cutA (bothC (pg f u.page) (pg f v.page) v.least) m⟩, ⟨v.page, cutB (bothC (pg f u.page) (pg f v.page) v.least) m⟩] := by
   unfold levS; rw [hp']; simp only; rw [kidAt_u, kidAt_v, take_v, drop_v, hm]; simp
  have hmm : (x = u ∧ m = 3 ∧ sizeP (pg f u.page) = 2) ∨ (x = v ∧ m + 1 = sizeP (pg f u.page) ∧ sizeP (pg f v.page) = 2) := by
   unfold cutM at hm
   rcases hxs with e | e
   ·rw [e] at hsm hx2
    left
    rw [if_neg (by omega)] at hm
    exact ⟨e, by omega, by omega⟩
   ·rw [e] at hsm hx2
    right
    rw [if_pos (by omega)] at hm
    exact ⟨e, by omega, by omega⟩
  obtain ⟨g1, g2, g3, g4, g5, g6⟩ := level_on h hp' rfl (m := m) (by rcases hmm with h | h <;> omega) (by rcases hmm with h | h <;> omega) (by rw [hb]; rcases hmm with h | h <;> omega) (by rw [hb]; rcases hmm with h | h <;> omega) rfl
  rw [hS]
  have hch := chain_one g1 g2.good g3
  obtain ⟨_, _, _, _, _, d6, d7⟩ := con_cut (m := m) P.both.1 (by rcases hmm with h | h <;> omega) (by rw [hb]; rcases hmm with h | h <;> omega)
  have hup : x = u → ltK (cutS (bothC (pg f u.page) (pg f v.page) v.least) m) v.least = false := fun e => lvl_up P.cx P.cy (by rcases hmm with h | h; omega; exact absurd (e.symm.trans h.1) (fun e => P.xy (by rw [e]))) (by rcases hmm with h | h <;> omega)
  have hdn : x = v → ltK (cutS (bothC (pg f u.page) (pg f v.page) v.least) m) v.least = true := fun e => lvl_dn P.cx P.cy (by rcases hmm with h | h <;> omega) (by rcases hmm with h | h; exact absurd (h.1.symm.trans e) (fun e => P.xy (by rw [e])); omega)
  generalize hB : bothC (pg f u.page) (pg f v.page) v.least = B at *
  generalize hf' : withS f (srtS [⟨n, ⟨2, [], p1 ++ u :: ⟨cutS B m, v.page⟩ :: p2⟩⟩, ⟨u.page, cutA B m⟩, ⟨v.page, cutB B m⟩]) = f' at g2 g3 g4 g5 g6 hch ⊢
  have hgs : ∀ g ∈ [Group.mk (srtS [⟨n, ⟨2, [], p1 ++ u :: ⟨cutS B m, v.page⟩ :: p2⟩⟩, ⟨u.page, cutA B m⟩, ⟨v.page, cutB B m⟩])], ∀ s ∈ g.sheets, s.page = n ∨ s.page = u.page ∨ s.page = v.page := fun g hg s hs => by
   cases List.mem_singleton.1 hg
   have := (srtS_perm _).mem_iff.1 hs
   simp only [List.mem_cons, List.not_mem_nil, or_false] at this
   rcases this with rfl | rfl | rfl <;> simp
  rcases hcase with ⟨a, b, c⟩ | ⟨a, b, c, c'⟩
  ·have hxu : x = u := a.symm
   have c1' : p1 ≠ [] → ltK k u.least = false := fun hne => by rw [a]; exact c1 (b ▸ hne)
   have c2' : ∀ y t, (⟨cutS B m, v.page⟩ :: p2 : List Kid) = y :: t → ltK k y.least = true := fun y t ey => by
    cases ey; exact lt_le (c2 v p2 c) (hup hxu)
   have hnext : nextPg f' n k = u.page := by
    unfold nextPg
    rw [g4]
    simp only
    rw [kidI_of (g2.inner g4).rise c1' c2', kidAt_mid]
   rw [hnext]
   exact ⟨D, g2.down g4 c1' c2', fun _ => by rw [g5, d6]; rcases hmm with h | h; omega; exact absurd (hxu.symm.trans h.1) (fun e => P.xy (by rw [e])), g3, hch, u.page, v.page, Or.inl rfl, hgs⟩
  ·have hxv : x = v := a.symm
   have e' : p1 ++ u :: ⟨cutS B m, v.page⟩ :: p2 = (p1 ++ [u]) ++ ⟨cutS B m, v.page⟩ :: p2 := by simp
   have c1' : p1 ++ [u] ≠ [] → ltK k (Kid.mk (cutS B m) v.page).least = false := fun _ => by
    have := c1 (by rw [b]; simp)
    rw [hxv] at this
    exact le_le (lt_asymm (hdn hxv)) this
   have c2' : ∀ y t, p2 = y :: t → ltK k y.least = true := fun y t ey => by rw [c] at ey; cases ey
   rw [e'] at g4
   have hnext : nextPg f' n k = v.page := by
    unfold nextPg
    rw [g4]
    simp only
    rw [kidI_of (g2.inner g4).rise c1' c2', kidAt_mid]
   rw [hnext]
   exact ⟨D, g2.down (x := ⟨cutS B m, v.page⟩) g4 c1' c2', fun _ => by rw [g6, d7, hb]; rcases hmm with h | h; exact absurd (h.1.symm.trans hxv) (fun e => P.xy (by rw [e])); omega, g3, hch, u.page, v.page, Or.inr (Or.inl rfl), hgs⟩
def takeW (k : Key) : Nat → List Content → Int → List Content × Int × List Group
 | 0, f, n => (f, n, [])
 | d + 1, f, n => ((takeW k d (feedP f n k).1 (feedP f n k).2.1).1, (takeW k d (feedP f n k).1 (feedP f n k).2.1).2.1, (feedP f n k).2.2 ++ (takeW k d (feedP f n k).1 (feedP f n k).2.1).2.2)
theorem takeW_on {k : Key} : ∀ {d D : Nat} {f : List Content} {n : Int}, On f D (d + 1) n k → (n ≠ 0 → 3 ≤ sizeP (pg f n)) →
  ∃ D', On (takeW k d f n).1 D' 1 (takeW k d f n).2.1 k ∧ ((takeW k d f n).2.1 ≠ 0 → 3 ≤ sizeP (pg (takeW k d f n).1 (takeW k d f n).2.1)) ∧ rws (takeW k d f n).1 D' 0 = rws f D 0 ∧ Chain (rws f D 0) f (takeW k d f n).2.2 (takeW k d f n).1 ∧
   ∃ T : List Int, T.length ≤ 2 * d ∧ (takeW k d f n).2.1 ∈ n :: T ∧ ∀ g ∈ (takeW k d f n).2.2, ∀ s ∈ g.sheets, s.page ∈ n :: T
 | 0, D, f, n, h, hs => ⟨D, h, hs, rfl, rfl, [], by simp, by simp [takeW], by simp [takeW]⟩
 | d + 1, D, f, n, h, hs => by
  obtain ⟨D1, h2, h3, h4, h5, u, v, h6, h7⟩ := feed_on h hs
  obtain ⟨D2, g2, g3, g4, g5, T, g6, g7, g8⟩ := takeW_on h2 h3
  have hk : ∀ p, p ∈ (feedP f n k).2.1 :: T → p ∈ n :: u :: v :: T := fun p hp => by
   rcases List.mem_cons.1 hp with e | e
   ·rw [e]; rcases h6 with e | e | e <;> rw [e] <;> simp
   ·simp [e]
  refine ⟨D2, g2, g3, g4.trans h4, chain_app h5 (h4 ▸ g5), u :: v :: T, by simp only [List.length_cons]; omega, hk _ g7, fun g hg s hs' => ?_⟩
  rcases List.mem_append.1 hg with hg | hg
  ·rcases h7 g hg s hs' with e | e | e <;> rw [e] <;> simp
  ·exact hk _ (g8 g hg s hs')
theorem others_len {l : List Row} (hs : Srt l) {k : Key} {x : Row} (hf : findK l k = some x) : (others k l).length + 1 = l.length := by
 rcases stand hs k with ⟨pre, y, post, rfl, hx, hc, _⟩ | ⟨pre, post, rfl, hc, h⟩
 ·rw [others_in hx hc]; simp; omega
 ·rw [hf] at h; cases h
theorem take_leaf {f : List Content} {D : Nat} {n : Int} {k : Key} (h : On f D 1 n k) {x : Row} (hf : findK (rws f D 0) k = some x) (hs : n ≠ 0 → 3 ≤ sizeP (pg f n)) {l : List Row} (hp : pg f n = ⟨1, l, []⟩) :
  Grp f (one n (others k l)) ∧ Good (withS f (one n (others k l))) D ∧ rws (withS f (one n (others k l))) D 0 = others k (rws f D 0) ∧ LeafOk (others k l) ∧ findK l k = some x := by
 obtain ⟨l0, g3, g4, g5, g6⟩ := h.leaf
 obtain rfl : l0 = l := by rw [hp] at g3; injection g3 with _ g3; exact g3.symm
 obtain ⟨lo, hi, Q, R1, R2, hA, hw, h1, h2⟩ := h
 rw [g6] at hf
 have hlen := others_len g4.srt hf
 obtain ⟨_, _, l1, g3', _, g5'⟩ := hA.tree
 obtain rfl : l1 = l0 := by rw [hp] at g3'; injection g3' with _ g3'; exact g3'.symm
 have hsub : ∀ y ∈ others k l1, y ∈ l1 := fun y hy => (List.mem_filter.1 hy).1
 have hL : LeafOk (others k l1) := ⟨by have := g4.len; omega, fun y hy => g4.row y (hsub y hy), g4.srt.sublist List.filter_sublist⟩
 obtain ⟨q1, q2, q3, q4⟩ := leaf_change hA hp hL (fun y hy => g5' y (hsub y hy)) (fun e => by have := hs e; rw [hp] at this; simp [sizeP] at this; omega)
 refine ⟨q1, q2, ?_, hL, hf⟩
 have o1 : others k R1 = R1 := List.filter_eq_self.2 fun y hy => by simpa using lt_ne (h1 y hy)
 have o2 : others k R2 = R2 := List.filter_eq_self.2 fun y hy => by simpa using (lt_ne (h2 y hy)).symm
 rw [q3, q4]
 unfold others at o1 o2 ⊢
 rw [List.filter_append, List.filter_append, o1, o2]
theorem take_on {f : List Content} {D : Nat} {k : Key} (h : Good f D) (hk : ltK k key0 = false) :
  ∃ D', On (takeW k (D - 1) f 0).1 D' 1 (takeW k (D - 1) f 0).2.1 k ∧ ((takeW k (D - 1) f 0).2.1 ≠ 0 → 3 ≤ sizeP (pg (takeW k (D - 1) f 0).1 (takeW k (D - 1) f 0).2.1)) ∧ rws (takeW k (D - 1) f 0).1 D' 0 = rws f D 0 ∧ Chain (rws f D 0) f (takeW k (D - 1) f 0).2.2 (takeW k (D - 1) f 0).1 ∧
   ∃ T : List Int, T.length ≤ 2 * (D - 1) ∧ (takeW k (D - 1) f 0).2.1 ∈ 0 :: T ∧ ∀ g ∈ (takeW k (D - 1) f 0).2.2, ∀ s ∈ g.sheets, s.page ∈ 0 :: T := by
 obtain ⟨d, rfl⟩ : ∃ d, D = d + 1 := ⟨D - 1, by have := h.pos; omega⟩
 exact takeW_on (On.root h hk) fun e => absurd rfl e
end Go.Proofs.YtlcmdgpjiendmaaGreat
namespace Go.Proofs.YtlcmdgpjiendmaaGreat
open Go.Bur
set_option linter.unusedSimpArgs false
set_option linter.unusedVariables false
set_option maxRecDepth 100000
def mapI (g : Nat → Kid → List Kid) : Nat → List Kid → List Kid
 | _, [] => []
 | j, y :: t => g j y ++ mapI g (j + 1) t
theorem mapI_same {g : Nat → Kid → List Kid} : ∀ {l : List Kid} {j : Nat}, (∀ i y, j ≤ i → i < j + l.length → g i y = [y]) → mapI g j l = l
 | [], _, _ => rfl
 | y :: t, j, h => by
  rw [mapI, h j y (Nat.le_refl _) (by simp), mapI_same fun i z h1 h2 => h i z (by omega) (by simp only [List.length_cons]; omega)]; rfl
theorem mapI_app {g : Nat → Kid → List Kid} : ∀ {l m : List Kid} {j : Nat}, mapI g j (l ++ m) = mapI g j l ++ mapI g (j + l.length) m
 | [], _, _ => rfl
 | y :: t, m, j => by
  rw [List.cons_append, mapI, mapI, mapI_app, List.append_assoc, List.length_cons, show j + 1 + t.length = j + (t.length + 1) by omega]
theorem mapI_mid {g : Nat → Kid → List Kid} {l1 l2 : List Kid} {x : Kid} (h : ∀ i y, i ≠ l1.length → g i y = [y]) : mapI g 0 (l1 ++ x :: l2) = l1 ++ (g l1.length x ++ l2) := by
 rw [mapI_app, mapI_same fun i y _ h2 => h i y (by omega), mapI, mapI_same fun i y h1 _ => h i y (by omega), Nat.zero_add]
theorem mapI_loop {R : Type} {F : ((Nat × List Kid) → Option R) → (Nat × List Kid) → Option R} {T : Type} {G : (T → Option R) → T → Option R} (g : Nat → Kid → List Kid) (hg : ∀ i y, (g i y).length ≤ 2) (l : List Kid) (mk : Nat → List Kid → T) (fin : List Kid → Option R)
  (hG : ∀ r i y acc, l[i]? = some y → i < l.length → acc.length ≤ 2 * i → G r (mk i acc) = r (mk (i + 1) (acc ++ g i y))) (hE : ∀ r acc, G r (mk l.length acc) = fin acc) :
  ∀ m i acc, i ≤ l.length → l.length - i < m → acc.length ≤ 2 * i → loopF G m (mk i acc) = fin (acc ++ mapI g i (l.drop i)) := by
 intro m
 induction m with
 | zero => intro i acc _ h; omega
 | succ m ih =>
  intro i acc hi hm ha
  rw [loopF_succ]
  by_cases h : i < l.length
  ·have := hg i l[i]
   rw [hG _ i _ acc (get_some h) h ha, ih (i + 1) _ (by omega) (by omega) (by rw [List.length_append]; omega), drop_cons h, mapI, List.append_assoc]
  ·obtain rfl : i = l.length := by omega
   rw [hE, drop_nil h, mapI, List.append_nil]
theorem eqi {i j : Nat} : ((i : Int) == (j : Int)) = decide (i = j) := ieq4
theorem radopt_eq (n : Nat) (hn : 1003 ≤ n) (c : Content) {l1 l2 : List Kid} {x : Kid} (hc : c.kids = l1 ++ x :: l2) (hl : (l1 ++ x :: l2).length ≤ 100) (m : Int) (s : Key) : ref11_Adopt n c (l1.length : Int) m s = some ⟨2, [], l1 ++ x :: ⟨s, m⟩ :: l2⟩ := by
 show ref11_Adopt_l1 n n ((l1.length : Int), m, ((0 : Nat) : Int), c, s, _, [], ()) = _
 unfold ref11_Adopt_l1
 refine (mapI_loop (F := fun _ _ => none) (fun i y => if i = l1.length then [y, ⟨s, m⟩] else [y]) (fun i y => by split <;> simp) c.kids (fun i acc => ((l1.length : Int), m, (i : Int), c, s, Content.mk 0 [] [], acc, ())) (fun acc => some ⟨2, [], acc⟩) (fun r i y acc hy hi ha => ?_) (fun r acc => ?_) n 0 [] (Nat.zero_le _) (by rw [hc]; omega) (by simp)).trans ?_
 ·rw [hc] at hi
  simp only [lt_dec (hc ▸ hi : i < c.kids.length), cond_true, idx_nat, hy, Option.bind_some, app_lt (show acc.length + [y].length ≤ 1000000 by simp; omega) (show 24 ≤ 1000 by omega), jn, ref11_Adopt_j2, eqi, wrap_succ (show i < 4611686018427387904 by omega)]
  by_cases e : i = l1.length
  ·rw [decide_eq_true e, cond_true, if_pos e, app_lt (by simp; omega) (by decide)]
   simp
  ·rw [decide_eq_false e, cond_false, if_neg e]
 ·simp only [ge_dec (Nat.lt_irrefl _), cond_false]; rfl
 ·rw [List.drop_zero, hc, mapI_mid fun i y h => if_neg h, if_pos rfl]; simp
theorem rdisown_eq (n : Nat) (hn : 1003 ≤ n) (c : Content) {l1 l2 : List Kid} {x : Kid} (hc : c.kids = l1 ++ x :: l2) (hl : (l1 ++ x :: l2).length ≤ 100) : ref11_Disown n c (l1.length : Int) = some ⟨2, [], l1 ++ l2⟩ := by
 show ref11_Disown_l1 n n ((l1.length : Int), ((0 : Nat) : Int), c, _, [], ()) = _
 unfold ref11_Disown_l1
 refine (mapI_loop (F := fun _ _ => none) (fun i y => if i = l1.length then [] else [y]) (fun i y => by split <;> simp) c.kids (fun i acc => ((l1.length : Int), (i : Int), c, Content.mk 0 [] [], acc, ())) (fun acc => some ⟨2, [], acc⟩) (fun r i y acc hy hi ha => ?_) (fun r acc => ?_) n 0 [] (Nat.zero_le _) (by rw [hc]; omega) (by simp)).trans ?_
 ·rw [hc] at hi
  simp only [lt_dec (hc ▸ hi : i < c.kids.length), cond_true, idx_nat, hy, Option.bind_some, app_lt (show acc.length + [y].length ≤ 1000000 by simp; omega) (show 24 ≤ 1000 by omega), jn, ref11_Disown_j2, ineN, wrap_succ (show i < 4611686018427387904 by omega)]
  by_cases e : i = l1.length
  ·rw [decide_eq_true e, if_pos e]; simp
  ·rw [decide_eq_false e, if_neg e]; simp
 ·simp only [ge_dec (Nat.lt_irrefl _), cond_false]; rfl
 ·rw [List.drop_zero, hc, mapI_mid fun i y h => if_neg h, if_pos rfl]; simp
theorem rstep_eq (n : Nat) (hn : 1003 ≤ n) (c : Content) {l1 l2 : List Kid} {x : Kid} (hc : c.kids = l1 ++ x :: l2) (hl : (l1 ++ x :: l2).length ≤ 100) (s : Key) : ref11_Step n c (l1.length : Int) s = some ⟨2, [], l1 ++ ⟨s, x.page⟩ :: l2⟩ := by
 show ref11_Step_l1 n n ((l1.length : Int), ((0 : Nat) : Int), c, s, _, [], ()) = _
 unfold ref11_Step_l1
 refine (mapI_loop (F := fun _ _ => none) (fun i y => if i = l1.length then [⟨s, y.page⟩] else [y]) (fun i y => by split <;> simp) c.kids (fun i acc => ((l1.length : Int), (i : Int), c, s, Content.mk 0 [] [], acc, ())) (fun acc => some ⟨2, [], acc⟩) (fun r i y acc hy hi ha => ?_) (fun r acc => ?_) n 0 [] (Nat.zero_le _) (by rw [hc]; omega) (by simp)).trans ?_
 ·rw [hc] at hi
  simp only [lt_dec (hc ▸ hi : i < c.kids.length), cond_true, idx_nat, hy, Option.bind_some, jn, ref11_Step_j2, eqi, wrap_succ (show i < 4611686018427387904 by omega)]
  by_cases e : i = l1.length
  ·rw [decide_eq_true e, cond_true, if_pos e, app_lt (by simp; omega) (by decide)]; rfl
  ·rw [decide_eq_false e, cond_false, if_neg e, app_lt (by simp; omega) (by decide)]; rfl
 ·simp only [ge_dec (Nat.lt_irrefl _), cond_false]; rfl
 ·rw [List.drop_zero, hc, mapI_mid fun i y h => if_neg h, if_pos rfl]; simp
theorem lt_uniq : ∀ {l m : List Sheet}, l.Perm m → (l.Pairwise fun a b => a.page < b.page) → (m.Pairwise fun a b => a.page < b.page) → l = m
 | [], m, h, _, _ => (List.nil_perm.1 h).symm
 | x :: l, [], h, _, _ => absurd h.length_eq (by simp)
 | x :: l, y :: m, h, h1, h2 => by
  obtain ⟨a1, a2⟩ := List.pairwise_cons.1 h1
  obtain ⟨b1, b2⟩ := List.pairwise_cons.1 h2
  have e : x = y := by
   rcases List.mem_cons.1 (h.mem_iff.1 (List.mem_cons_self ..) : x ∈ y :: m) with e | hx
   ·exact e
   ·rcases List.mem_cons.1 (h.mem_iff.2 (List.mem_cons_self ..) : y ∈ x :: l) with e | hy
    ·exact e.symm
    ·have := b1 x hx; have := a1 y hy; omega
  subst e
  rw [lt_uniq h.cons_inv a2 b2]
def pickS (l : List Sheet) (j : Nat) : List Sheet := l.filter fun s => decide (s.page = (j : Int))
theorem pick_all {l : List Sheet} (hl : SheetsIn l) (hd : (l.map (·.page)).Nodup) : (List.range' 0 64).flatMap (pickS l) = srtS l := by
  have hf1 : ∀ j, (pickS l j).length ≤ 1 := fun j => by
    match h : pickS l j with
    | [] => simp
    | [_] => simp
    | a :: b :: t =>
      have hs : (pickS l j).Sublist l := List.filter_sublist
      have hn := (hs.map (·.page)).nodup hd
      have ha : a.page = (j : Int) := by have : a ∈ pickS l j := by rw [h]; simp
                                         exact of_decide_eq_true (List.mem_filter.1 this).2
      have hb : b.page = (j : Int) := by have : b ∈ pickS l j := by rw [h]; simp
                                         exact of_decide_eq_true (List.mem_filter.1 this).2
      rw [h] at hn
      simp only [List.map_cons, List.nodup_cons, List.mem_cons, not_or] at hn
      exact absurd (ha.trans hb.symm) hn.1.1
  have hmem : ∀ {j s}, s ∈ pickS l j → s ∈ l ∧ s.page = (j : Int) := fun hs => ⟨(List.mem_filter.1 hs).1, of_decide_eq_true (List.mem_filter.1 hs).2⟩
  have hsorted : ∀ (k i : Nat), ((List.range' i k).flatMap (pickS l)).Pairwise fun a b => a.page < b.page := by
    intro k
    induction k with
    | zero => intro i; simp
    | succ k ih =>
      intro i
      rw [List.range'_succ, List.flatMap_cons]
      refine List.pairwise_append.2 ⟨?_, ih (i + 1), fun a ha b hb => ?_⟩
      · match h : pickS l i, hf1 i with
        | [], _ => simp
        | [_], _ => simp
      · obtain ⟨j, hj, hb⟩ := List.mem_flatMap.1 hb
        rw [List.mem_range'_1] at hj
        have := (hmem ha).2; have := (hmem hb).2; omega
  have hnd : l.Nodup := List.Pairwise.imp (fun h e => h (by rw [e])) (List.pairwise_map.1 hd)
  have hperm : ((List.range' 0 64).flatMap (pickS l)).Perm l := (List.perm_ext_iff_of_nodup ((hsorted 64 0).imp fun h e => by rw [e] at h; omega) hnd).2 fun s => by
    rw [List.mem_flatMap]
    constructor
    · rintro ⟨j, _, hs⟩; exact (hmem hs).1
    · intro hs
      have := hl s hs
      refine ⟨s.page.toNat, by rw [List.mem_range'_1]; omega, List.mem_filter.2 ⟨hs, decide_eq_true (by omega)⟩⟩
  exact lt_uniq (hperm.trans (srtS_perm l).symm) (hsorted 64 0) (srtS_lt hd)
theorem sorted_l2 (n : Nat) (r1 : (List Sheet) × Int × (List Sheet) × Unit → Option (List Sheet)) (l : List Sheet) (hl : l.length ≤ 100000) (j : Nat) (hj : j < 64) : ∀ (m : Nat) (t : List Sheet) (i : Nat) (acc : List Sheet), l.drop i = t → i ≤ l.length → t.length < m → acc.length + t.length ≤ 100000 →
  ref13_sorted_l2 n r1 m (l, (j : Int), (i : Int), acc, ()) = r1 (l, ((j + 1 : Nat) : Int), acc ++ pickS t j, ()) := by
 intro m
 induction m with
 | zero => intro t i acc _ _ h; omega
 | succ m ih =>
  intro t i acc ht hi hk ha
  unfold ref13_sorted_l2
  rw [loopF_succ]
  generalize hr : loopF _ m = r2
  replace hr : ref13_sorted_l2 n r1 m = r2 := hr
  simp only [hr] at ih
  cases t with
  | nil =>
   cases drop_end ht hi
   simp only [ge_dec (Nat.lt_irrefl _), cond_false, wrap_succ (show j < 4611686018427387904 by omega)]
   simp [pickS]
  | cons x t =>
   obtain ⟨h1, h2, h3⟩ := drop_get ht
   simp only [List.length_cons] at ha hk
   simp only [lt_dec h3, cond_true, idx_nat, h1, Option.bind_some, jn, ref13_sorted_j3, ibeq, wrap_succ (show i < 4611686018427387904 by omega)]
   by_cases e : x.page = (j : Int)
   ·rw [decide_eq_true e, cond_true, app_lt (by simp; omega) (by decide)]
    simp only [Option.bind_some]
    rw [ih t (i + 1) _ h2 (by omega) (by omega) (by simp; omega)]
    simp [pickS, e]
   ·rw [decide_eq_false e, cond_false, ih t (i + 1) _ h2 (by omega) (by omega) (by omega)]
    simp [pickS, e]
theorem rsorted_eq (n : Nat) (hn : 1003 ≤ n) {l : List Sheet} (hl : SheetsIn l) (hd : (l.map (·.page)).Nodup) (hlen : l.length ≤ 100) : ref13_sorted n l = some (srtS l) := by
 have key : ∀ (m j : Nat) (acc : List Sheet), j ≤ 64 → 64 - j < m → acc.length ≤ 100 * j → ref13_sorted_l1 n m (l, (j : Int), acc, ()) = some (acc ++ (List.range' j (64 - j)).flatMap (pickS l)) := by
  intro m
  induction m with
  | zero => intro j acc _ h; omega
  | succ m ih =>
   intro j acc hj hm ha
   unfold ref13_sorted_l1
   rw [loopF_succ]
   generalize hr : loopF _ m = r1
   replace hr : ref13_sorted_l1 n m = r1 := hr
   simp only [hr] at ih
   by_cases h : j < 64
   ·simp only [show decide ((j : Int) < 64) = true from decide_eq_true (by omega), cond_true]
    have hp : (pickS l j).length ≤ l.length := List.length_filter_le ..
    refine (sorted_l2 n r1 l (by omega) j h n l 0 acc rfl (Nat.zero_le _) (by omega) (by omega)).trans ?_
    rw [ih (j + 1) _ (by omega) (by omega) (by rw [List.length_append]; omega), show 64 - j = (64 - (j + 1)) + 1 by omega, List.range'_succ, List.flatMap_cons, List.append_assoc]
   ·obtain rfl : j = 64 := by omega
    simp only [show decide (((64 : Nat) : Int) < 64) = false from rfl, cond_false]
    simp
 have := key n 0 [] (by omega) (by omega) (by simp)
 rw [List.nil_append, Nat.sub_zero, pick_all hl hd] at this
 exact this
theorem rwith_eq (n : Nat) (hn : 1003 ≤ n) {f : List Content} (hf : f.length = 64) {l : List Sheet} (hl : SheetsIn l) (hlen : l.length ≤ 900) : ref13_With n ⟨f⟩ l = some ⟨withS f l⟩ := by
 have key : ∀ (m : Nat) (t : List Sheet) (i : Nat) (g : List Content), l.drop i = t → i ≤ l.length → t.length < m → g.length = 64 → ref13_With_l1 n m (l, (i : Int), ⟨[]⟩, g, ()) = some ⟨withS g t⟩ := by
  intro m
  induction m with
  | zero => intro t i g _ _ h; omega
  | succ m ih =>
   intro t i g ht hi hk hg
   unfold ref13_With_l1
   rw [loopF_succ]
   generalize hr : loopF _ m = r1
   replace hr : ref13_With_l1 n m = r1 := hr
   simp only [hr] at ih
   cases t with
   | nil =>
    cases drop_end ht hi
    simp only [ge_dec (Nat.lt_irrefl _), cond_false]; rfl
   | cons x t =>
    obtain ⟨h1, h2, h3⟩ := drop_get ht
    have hx := hl x (List.mem_of_getElem? h1)
    obtain ⟨j, hj⟩ : ∃ j : Nat, x.page = (j : Int) := ⟨x.page.toNat, by omega⟩
    have hput : put g x.page x.content = some (setP g x.page x.content) := by unfold setP; rw [hj, Int.toNat_natCast]; exact put_ok (by omega)
    simp only [lt_dec h3, cond_true, idx_nat, h1, Option.bind_some, show idx g x.page = some (pg g x.page) from idx_pg ⟨hx.1, by omega⟩, hput, wrap_succ (show i < 4611686018427387904 by omega)]
    exact ih t (i + 1) _ h2 (by omega) (by simp only [List.length_cons] at hk; omega) (by rw [set_len]; exact hg)
 unfold ref13_With
 rw [app_lt (by simp; omega) (by decide)]
 simp only [Option.bind_some, List.nil_append]
 exact key n l 0 f rfl (Nat.zero_le _) (by omega) hf
end Go.Proofs.YtlcmdgpjiendmaaGreat
namespace Go.Proofs.YtlcmdgpjiendmaaGreat
open Go.Bur
set_option linter.unusedSimpArgs false
set_option linter.unusedVariables false
set_option maxRecDepth 20000
def insN (s : Sheet) : List Sheet → List Sheet
 | [] => [s]
 | x :: t => if x.page < s.page then x :: insN s t else if x.page = s.page then x :: t else s :: x :: t
def netS (l : List Sheet) : List Sheet := l.foldr insN []
def allS (gs : List Group) : List Sheet := gs.flatMap (·.sheets)
def UpS (l : List Sheet) : Prop := l.Pairwise fun a b => a.page < b.page
theorem insN_mem {s : Sheet} : ∀ {o : List Sheet}, UpS o → ∀ x, x ∈ insN s o ↔ x ∈ o ∨ (x = s ∧ ∀ y ∈ o, y.page ≠ s.page)
 | [], _, x => by simp [insN]
 | y :: t, h, x => by
  obtain ⟨h1, h2⟩ := List.pairwise_cons.1 h
  have ih := insN_mem (s := s) h2 x
  unfold insN
  split
  ·simp only [List.mem_cons, ih]; grind
  ·split
   ·simp only [List.mem_cons]; grind
   ·simp only [List.mem_cons]; grind
theorem insN_up {s : Sheet} : ∀ {o : List Sheet}, UpS o → UpS (insN s o)
 | [], _ => by simp [insN, UpS]
 | y :: t, h => by
  obtain ⟨h1, h2⟩ := List.pairwise_cons.1 h
  unfold insN
  split
  ·rename_i hlt
   refine List.pairwise_cons.2 ⟨fun z hz => ?_, insN_up h2⟩
   rcases (insN_mem h2 z).1 hz with e | ⟨e, _⟩
   ·exact h1 z e
   ·rw [e]; exact hlt
  ·split
   ·exact h
   ·rename_i hlt he
    refine List.pairwise_cons.2 ⟨fun z hz => ?_, h⟩
    rcases List.mem_cons.1 hz with rfl | hz
    ·omega
    ·have := h1 z hz; omega
theorem netS_up : ∀ {l : List Sheet}, UpS (netS l)
 | [] => List.Pairwise.nil
 | s :: t => insN_up (netS_up (l := t))
theorem netS_sub : ∀ {l : List Sheet}, ∀ x ∈ netS l, x ∈ l
 | [], x, h => by cases h
 | s :: t, x, h => by
  rcases (insN_mem netS_up x).1 h with e | ⟨e, _⟩
  ·exact List.mem_cons_of_mem _ (netS_sub x e)
  ·rw [e]; exact List.mem_cons_self ..
theorem up_nodup' {l : List Sheet} (h : UpS l) : (l.map (·.page)).Nodup := List.pairwise_map.2 (h.imp fun h => by omega)
theorem with_ins {f : List Content} (hf : f.length = 64) {s : Sheet} (hs : 0 ≤ s.page ∧ s.page < 64) {o : List Sheet} (ho : UpS o) (hi : SheetsIn o) : withS f (insN s o) = withS (setP f s.page s.content) o := by
 have hi' : SheetsIn (insN s o) := fun x hx => by
  rcases (insN_mem ho x).1 hx with e | ⟨e, _⟩
  ·exact hi x e
  ·rw [e]; exact hs
 have hn := up_nodup' (insN_up (s := s) ho)
 have hn' := up_nodup' ho
 have hf' : (setP f s.page s.content).length = 64 := by rw [set_len]; exact hf
 refine pg_ext (by rw [with_len]; exact hf) (by rw [with_len]; exact hf') fun m hm => ?_
 by_cases h : ∃ x ∈ o, x.page = m
 ·obtain ⟨x, hx, rfl⟩ := h
  rw [with_at hf hi' hn x ((insN_mem ho x).2 (Or.inl hx)), with_at hf' hi hn' x hx]
 ·rw [with_other (l := o) hf' hi fun x hx e => h ⟨x, hx, e⟩, pg_set hf hs]
  by_cases e : m = s.page
  ·subst e
   rw [if_pos rfl, with_at hf hi' hn s ((insN_mem ho s).2 (Or.inr ⟨rfl, fun y hy e => h ⟨y, hy, e⟩⟩))]
  ·rw [if_neg e, with_other hf hi' fun x hx e' => by
    rcases (insN_mem ho x).1 hx with e2 | ⟨e2, _⟩
    ·exact h ⟨x, e2, e'⟩
    ·rw [e2] at e'; exact e e'.symm]
theorem with_net : ∀ {l : List Sheet} {f : List Content}, f.length = 64 → SheetsIn l → withS f (netS l) = withS f l
 | [], _, _, _ => rfl
 | s :: t, f, hf, hl => by
  have ht : SheetsIn t := fun x hx => hl x (List.mem_cons_of_mem _ hx)
  show withS f (insN s (netS t)) = withS (setP f s.page s.content) t
  rw [with_ins hf (hl s (List.mem_cons_self ..)) netS_up (fun x hx => ht x (netS_sub x hx)), with_net (by rw [set_len]; exact hf) ht]
theorem with_append : ∀ {a b : List Sheet} {f : List Content}, withS f (a ++ b) = withS (withS f a) b
 | [], _, _ => rfl
 | s :: t, b, f => by rw [List.cons_append, withS, withS, with_append]
theorem chain_with {R : List Row} : ∀ {gs : List Group} {f f' : List Content}, Chain R f gs f' → withS f (allS gs) = f' ∧ SheetsIn (allS gs)
 | [], _, _, h => ⟨h.symm, by simp [allS, SheetsIn]⟩
 | g :: gs, f, f', ⟨h1, _, _, h2⟩ => by
  obtain ⟨e1, e2⟩ := chain_with h2
  refine ⟨by rw [allS, List.flatMap_cons, with_append]; exact e1, fun s hs => ?_⟩
  rw [allS, List.flatMap_cons] at hs
  rcases List.mem_append.1 hs with hs | hs
  ·exact h1.rng s hs
  ·exact e2 s hs
theorem net_l4 (n : Nat) (j3 : (List Group) × Int × Int × (List Sheet) × Unit → Option (List Sheet)) (gs : List Group) (a b : Int) (s : Sheet) : ∀ (m : Nat) (t pre : List Sheet), t.length < m → (pre ++ t).length ≤ 20000 → (∀ x ∈ pre, x.page < s.page) →
  ref13_Net_l4 n j3 m (gs, a, b, (pre.length : Int), pre ++ t, s, ()) = j3 (gs, a, b, pre ++ insN s t, ()) := by
 intro m
 induction m with
 | zero => intro t pre h; omega
 | succ m ih =>
  intro t pre hk hl hp
  unfold ref13_Net_l4
  rw [loopF_succ]
  generalize hr : loopF _ m = r1
  replace hr : ref13_Net_l4 n j3 m = r1 := hr
  simp only [hr] at ih
  have hins : ((sub3 (pre ++ t) (pre.length : Int) (pre.length : Int)).bind fun l45 => (Go.Bur.sub (pre ++ t) (pre.length : Int) ((pre ++ t).length : Int)).bind fun l46 => (app 64 ([s] : List Sheet) l46).bind fun l47 => neL l47 ((app 64 l45 l47).bind fun l48 => j3 (gs, a, b, l48, ()))) = j3 (gs, a, b, pre ++ s :: t, ()) := by
   rw [List.length_append] at hl
   have e1 : sub3 (pre ++ t) (pre.length : Int) (pre.length : Int) = some pre := by
    unfold sub3
    have := sub_ok (l := pre ++ t) (a := 0) (b := pre.length) (by omega) (by simp)
    rw [show ((0 : Nat) : Int) = 0 from rfl] at this
    simp [this]
   have e2 : Go.Bur.sub (pre ++ t) (pre.length : Int) ((pre ++ t).length : Int) = some t := by
    rw [sub_ok (by simp) (Nat.le_refl _)]
    simp
   rw [e1, e2]
   simp only [Option.bind_some]
   rw [app_lt (by simp; omega) (by decide)]
   simp only [Option.bind_some, neL, List.cons_append, List.nil_append, List.isEmpty_cons]
   rw [app_lt (by simp; omega) (by decide)]
   rfl
  cases t with
  | nil =>
   rw [List.append_nil] at hins ⊢
   simp only [ge_dec (Nat.lt_irrefl _), cond_false, jn]
   exact hins
  | cons x t =>
   have hget : idx (pre ++ x :: t) (pre.length : Int) = some x := idx_app
   have hlt : pre.length < (pre ++ x :: t).length := by simp
   simp only [lt_dec hlt, cond_true, hget, Option.bind_some, jn, ibeq]
   by_cases h1 : x.page < s.page
   ·rw [decide_eq_true h1, cond_true, wrap_succ (by rw [List.length_append] at hl; omega)]
    have := ih t (pre ++ [x]) (by simp only [List.length_cons] at hk; omega) (by simpa using hl) (fun y hy => by
     rcases List.mem_append.1 hy with hy | hy
     ·exact hp y hy
     ·cases List.mem_singleton.1 hy; exact h1)
    rw [List.length_append, List.append_assoc, List.append_assoc] at this
    rw [insN, if_pos h1]
    exact this
   ·rw [decide_eq_false h1, cond_false]
    by_cases h2 : x.page = s.page
    ·rw [decide_eq_true h2, cond_true, insN, if_neg h1, if_pos h2]
    ·rw [decide_eq_false h2, cond_false, insN, if_neg h1, if_neg h2]
     exact hins
theorem fold_len : ∀ {l o : List Sheet}, (l.foldr insN o).length ≤ l.length + o.length
 | [], o => by simp
 | s :: t, o => by
  have h : ∀ (o : List Sheet), (insN s o).length ≤ o.length + 1 := by
   intro o
   induction o with
   | nil => simp [insN]
   | cons y o ih =>
    unfold insN
    split
    ·simp only [List.length_cons]; omega
    ·split <;> simp
  have := h (t.foldr insN o)
  have := fold_len (l := t) (o := o)
  simp only [List.foldr_cons, List.length_cons]; omega
theorem net_l2 (n : Nat) (hn : 20002 ≤ n) (r1 : (List Group) × Int × (List Sheet) × Unit → Option (List Sheet)) (gs : List Group) (j : Nat) (g : Group) (hg : gs[j]? = some g) (hj : j ≤ 20000) : ∀ (m k : Nat) (o : List Sheet), k ≤ g.sheets.length → k < m → o.length + k ≤ 20000 →
  ref13_Net_l2 n r1 m (gs, (j : Int), (k : Int) - 1, o, ()) = r1 (gs, (j : Int) - 1, (g.sheets.take k).foldr insN o, ()) := by
 intro m
 induction m with
 | zero => intro k o _ h; omega
 | succ m ih =>
  intro k o hk hm ho
  unfold ref13_Net_l2
  rw [loopF_succ]
  generalize hr : loopF _ m = r2
  replace hr : ref13_Net_l2 n r1 m = r2 := hr
  simp only [hr] at ih
  cases k with
  | zero =>
   simp only [show decide (((0 : Nat) : Int) - 1 ≥ 0) = false from rfl, cond_false, wrap_in (show -9223372036854775808 ≤ (j : Int) - 1 ∧ (j : Int) - 1 ≤ 9223372036854775807 by omega)]
   rfl
  | succ k =>
   have e : ((k + 1 : Nat) : Int) - 1 = (k : Int) := by omega
   obtain ⟨s, hs⟩ : ∃ s, g.sheets[k]? = some s := ⟨_, get_some (by omega)⟩
   simp only [e, show decide ((k : Int) ≥ 0) = true from decide_eq_true (by omega), cond_true, jn, idx_nat, hg, hs, Option.bind_some]
   refine (net_l4 n (ref13_Net_j3 n r2) gs (j : Int) (k : Int) s n o [] (by omega) (by simp; omega) (by simp)).trans ?_
   unfold ref13_Net_j3
   have hl := fold_len (l := [s]) (o := o)
   simp only [List.nil_append, wrap_in (show -9223372036854775808 ≤ (k : Int) - 1 ∧ (k : Int) - 1 ≤ 9223372036854775807 by omega)]
   rw [ih k (insN s o) (by omega) (by omega) (by simp at hl; omega), List.take_add_one, hs]
   simp
theorem rnet_eq (n : Nat) (hn : 20002 ≤ n) (gs : List Group) (h : (allS gs).length + gs.length ≤ 10000) : ref13_Net n gs = some (netS (allS gs)) := by
 have hlen : ∀ (a : List Group), (∀ g ∈ a, g ∈ gs) → a.length ≤ gs.length → True := fun _ _ _ => trivial
 have key : ∀ (m k : Nat) (o : List Sheet), k ≤ gs.length → k < m → o.length + (allS (gs.take k)).length ≤ 10000 → ref13_Net_l1 n m (gs, (k : Int) - 1, o, ()) = some ((allS (gs.take k)).foldr insN o) := by
  intro m
  induction m with
  | zero => intro k o _ h; omega
  | succ m ih =>
   intro k o hk hm ho
   unfold ref13_Net_l1
   rw [loopF_succ]
   generalize hr : loopF _ m = r1
   replace hr : ref13_Net_l1 n m = r1 := hr
   simp only [hr] at ih
   cases k with
   | zero => rfl
   | succ k =>
    have e : ((k + 1 : Nat) : Int) - 1 = (k : Int) := by omega
    obtain ⟨g, hg⟩ : ∃ g, gs[k]? = some g := ⟨_, get_some (by omega)⟩
    have et : gs.take (k + 1) = gs.take k ++ [g] := by rw [List.take_add_one, hg]; rfl
    have es : allS (gs.take (k + 1)) = allS (gs.take k) ++ g.sheets := by rw [et, allS, List.flatMap_append]; simp [allS]
    rw [es, List.length_append] at ho
    simp only [e, show decide ((k : Int) ≥ 0) = true from decide_eq_true (by omega), cond_true, idx_nat, hg, Option.bind_some, wrap_in (show -9223372036854775808 ≤ (g.sheets.length : Int) - 1 ∧ (g.sheets.length : Int) - 1 ≤ 9223372036854775807 by omega)]
    rw [net_l2 n hn r1 gs k g hg (by omega) n g.sheets.length o (Nat.le_refl _) (by omega) (by omega), List.take_length]
    have hl := fold_len (l := g.sheets) (o := o)
    rw [ih k _ (by omega) (by omega) (by omega), es, List.foldr_append]
 unfold ref13_Net
 rw [wrap_in (by omega)]
 have := key n gs.length [] (Nat.le_refl _) (by omega) (by rw [List.take_length]; simp; omega)
 rw [List.take_length] at this
 exact this
end Go.Proofs.YtlcmdgpjiendmaaGreat
