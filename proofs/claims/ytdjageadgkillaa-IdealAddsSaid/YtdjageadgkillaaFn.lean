/- Code run by the kernel, and functions. -/
import Derived.Test.YtdjageadgkillaaDr
namespace Go.Bur
open Go.RowKit
set_option linter.unusedVariables false
set_option linter.unusedSimpArgs false

def loopF {T R : Type} (F : (T → Option R) → T → Option R) : Nat → T → Option R
  | 0, _ => none
  | m + 1, x => F (loopF F m) x

/-- The shape of a state: its slots, its things, and where what was handed over stands. -/
structure Pt where
  vs : List (Nat × PV)
  is : List PI
  og : Mp
@[reducible] def pvT (τ : Nat → Type) : List (Nat × PV) → Type → Type
  | [], r => r
  | p :: ps, r => p.2.T τ (pvT τ ps r)
@[reducible] def Pt.T (p : Pt) (τ : Nat → Type) : Type := PVsT τ (p.vs.map (·.2)) (PIsT τ p.is Unit)
def zipE {τ : Nat → Type} : List (Nat × PV) → List (A1 τ) → List (Nat × AV τ)
  | p :: ps, x :: xs => (p.1, .v x) :: zipE ps xs
  | _, _ => []
def putS (S : Tab) (p : Pt) (x : p.T S.τ) : ASt S.τ :=
  ⟨p.is.length, zipE p.vs (putVs S (fun j => j) (p.vs.map (·.2)) x).1, numI 0 (putIs S (fun j => j) p.is (putVs S (fun j => j) (p.vs.map (·.2)) x).2).1, p.og⟩
def slotsOf {τ : Nat → Type} (env : List (Nat × AV τ)) : List (Nat × PV) → Option (List (A1 τ))
  | [] => some []
  | p :: ps => match look env p.1, slotsOf env ps with
    | some (.v x), some xs => some (x :: xs)
    | _, _ => none
/-- Things handed over stand where the pattern says. -/
def ogOk (org : Mp) (ks : List Nat) : Mp → Bool
  | [] => true
  | (i, j) :: r => (match mpGet org i, ks[j]? with
    | some k, some k' => Nat.beq k k'
    | _, _ => false) && ogOk org ks r
def rdS (S : Tab) (p : Pt) (s : ASt S.τ) : Option (p.T S.τ) := match slotsOf s.env p.vs with
  | some as => match rdA S [] (p.vs.map (·.2)) p.is s as with
    | some (x, ks) => match ogOk s.org ks p.og with
      | true => some x
      | false => none
    | none => none
  | none => none

section
variable {P : Program} {S : Tab} {C : Cy} {N : Nat} {s : ASt S.τ} {a : Act} {w : World}
theorem slotsOf_rel {ρ : Rho} {Ps : List (World → Prop)} (h : ∀ t x, look s.env t = some x → RelAV S ρ Ps x (a.tmps.getD t undef)) : ∀ {ps : List (Nat × PV)} {as : List (A1 S.τ)}, slotsOf s.env ps = some as → All2 (RelA1 S ρ Ps) as (ps.map fun p => a.tmps.getD p.1 undef)
  | [], as, hh => by obtain rfl := someI' hh; trivial
  | p :: ps, as, hh => by
    simp only [slotsOf] at hh
    split at hh
    · rename_i x xs h1 h2
      obtain rfl := someI' hh
      exact ⟨h _ _ h1, slotsOf_rel h h2⟩
    · cases hh
theorem zipE_rel {ρ : Rho} {Ps : List (World → Prop)} : ∀ {ps : List (Nat × PV)} {xs : List (A1 S.τ)}, All2 (RelA1 S ρ Ps) xs (ps.map fun p => a.tmps.getD p.1 undef) → ∀ t x, look (zipE ps xs) t = some x → RelAV S ρ Ps x (a.tmps.getD t undef)
  | [], xs, h, t, x, hx => by cases xs <;> cases hx
  | p :: ps, [], h, t, x, hx => by cases hx
  | p :: ps, y :: xs, h, t, x, hx => by
    simp only [zipE, look] at hx
    split at hx
    · rename_i hb
      obtain rfl := someI' hx
      rw [← Nat.eq_of_beq_eq_true hb]
      exact h.1
    · exact zipE_rel h.2 t x hx
theorem ogOk_get {org : Mp} {ks : List Nat} : ∀ {og : Mp}, ogOk org ks og = true → ∀ i j, mpGet og i = some j → ∃ k, mpGet org i = some k ∧ ks[j]? = some k
  | [], _, i, j, h => by cases h
  | (i0, j0) :: r, hh, i, j, h => by
    simp only [ogOk, Bool.and_eq_true] at hh
    obtain ⟨h1, h2⟩ := hh
    simp only [mpGet] at h
    split at h
    · rename_i hb
      obtain rfl := Nat.eq_of_beq_eq_true hb
      obtain rfl := someI' h
      split at h1
      · rename_i k k' e1 e2
        exact ⟨k, e1, by rw [e2, Nat.eq_of_beq_eq_true h1]⟩
      · cases h1
    · exact ogOk_get h2 i j h
theorem rdS_hold (ok : TabOk S) {p : Pt} {x : p.T S.τ} (hrd : rdS S p s = some x) (h : Hold P S C N s a w) : Hold P S C N (putS S p x) a w := by
  obtain ⟨ρ, As, Ps, h⟩ := h
  unfold rdS at hrd
  split at hrd
  · rename_i as has
    split at hrd
    · rename_i y ks hra
      split at hrd
      · rename_i hog
        obtain rfl := someI' hrd
        obtain ⟨ρ2, As2, Ps2, h1, h2, h3, h4, h5, h6⟩ := rdA_ok (P := P) (C := C) (w := w) ok hra ⟨h.st, h.keep, h.old, slotsOf_rel h.env has, h.its, h.dom, h.org⟩
        refine ⟨ρ2, As2, Ps2, h1, h.keep, h2, h.size, h.dfr, zipE_rel h3, h4, h5, fun i j g hi hg => ?_⟩
        obtain ⟨k, e1, e2⟩ := ogOk_get hog i j hi
        exact h6 i k j g e1 e2 hg
      · cases hrd
    · cases hrd
  · cases hrd
end

/-! ### Code -/
inductive Ht where
  | n
  | sq (a b : Ht)
  | cd (j : Option Pt) (a b : Ht)
  | bk (j : Option Pt) (a : Ht)
  | lp (p : Pt) (a : Ht)
  | rg (fz : List Nat)
def Ht.l : Ht → Ht
  | .sq a _ => a
  | .cd _ a _ => a
  | .bk _ a => a
  | .lp _ a => a
  | _ => .n
def Ht.r : Ht → Ht
  | .sq _ b => b
  | .cd _ _ b => b
  | _ => .n
def Ht.j : Ht → Option Pt
  | .cd j _ _ => j
  | .bk j _ => j
  | .lp p _ => some p
  | _ => none
def Ht.fz : Ht → List Nat
  | .rg l => l
  | _ => []
structure Kn (τ : Nat → Type) (R : Type) where
  nrm : ASt τ → Option R
  exs : List (Nat × (ASt τ → Option R))
  ret : ASt τ → Option R
def lookX {α : Type} : List (Nat × α) → Nat → Option α
  | [], _ => none
  | (i, f) :: r, k => match Nat.beq i k with
    | true => some f
    | false => lookX r k
section
variable {R : Type}
def jump (S : Tab) (p : Pt) (j : p.T S.τ → Option R) (s : ASt S.τ) : Option R := match rdS S p s with
  | some x => j x
  | none => none
noncomputable def exC (W : Wk) (N n : Nat) : Code → Ht → ASt W.S.τ → Kn W.S.τ R → Option R
  | .skip, _, s, K => K.nrm s
  | .region _ ops draw, h, s, K => exReg W N n ops draw h.fz s K.nrm
  | .seq a b, h, s, K => exC W N n a h.l s ⟨fun s' => exC W N n b h.r s' K, K.exs, K.ret⟩
  | .cond x t e, h, s, K => match evO s.env x with
    | some (.v (.one (.lit b))) => match b with
      | true => exC W N n t h.l s K
      | false => exC W N n e h.r s K
    | some (.v (.one (.nb neg b))) => match neg with
      | false => nilC b (exC W N n t h.l s K) (exC W N n e h.r s K)
      | true => nilC b (exC W N n e h.r s K) (exC W N n t h.l s K)
    | some (.v (.one (.d .bool b))) => match h.j with
      | none => cond b (exC W N n t h.l s K) (exC W N n e h.r s K)
      | some p => jn (fun x : p.T W.S.τ => K.nrm (putS W.S p x)) fun j => cond b (exC W N n t h.l s ⟨jump W.S p j, K.exs, K.ret⟩) (exC W N n e h.r s ⟨jump W.S p j, K.exs, K.ret⟩)
    | _ => none
  | .block id b, h, s, K => match h.j with
    | none => exC W N n b h.l s ⟨K.nrm, (id, K.nrm) :: K.exs, K.ret⟩
    | some p => jn (fun x : p.T W.S.τ => K.nrm (putS W.S p x)) fun j => exC W N n b h.l s ⟨jump W.S p j, (id, jump W.S p j) :: K.exs, K.ret⟩
  | .loop b, h, s, K => match h.j with
    | some p => match rdS W.S p s with
      | some x => loopF (fun (self : p.T W.S.τ → Option R) x => exC W N n b h.l (putS W.S p x) ⟨jump W.S p self, K.exs, K.ret⟩) n x
      | none => none
    | none => none
  | .exit id, _, s, K => match lookX K.exs id with
    | some f => f s
    | none => none
  | .scope b, h, s, K => exC W N n b h s K
  | .label _, _, s, K => K.nrm s
  | .ret, _, s, K => K.ret s
  | .rangeFunc _ _ _ _, _, _, _ => none
  | .goto _, _, _, _ => none
  | .refuse _, _, _, _ => none

structure KOk (P : Program) (S : Tab) (C : Cy) (N : Nat) (K : Kn S.τ R) (r : R) (Q : Exit → Act → World → Prop) : Prop where
  nrm : ∀ s a w, K.nrm s = some r → Hold P S C N s a w → Q .normal a w
  exs : ∀ id f, lookX K.exs id = some f → ∀ s a w, f s = some r → Hold P S C N s a w → Q (.exit id) a w
  ret : ∀ s a w, K.ret s = some r → Hold P S C N s a w → Q .ret a w
theorem jump_ok {P : Program} {S : Tab} (ok : TabOk S) {C : Cy} {N : Nat} {p : Pt} {j : p.T S.τ → Option R} {s : ASt S.τ} {r : R} {a : Act} {w : World} (h : jump S p j s = some r) (hH : Hold P S C N s a w) : ∃ x, j x = some r ∧ Hold P S C N (putS S p x) a w := by
  unfold jump at h
  split at h
  · rename_i x hx; exact ⟨x, h, rdS_hold ok hx hH⟩
  · cases h
theorem exC_sound {W : Wk} (hW : WkOk W) (hm : W.P.follows .mixedOrders = true) {C : Cy} {N n : Nat} {r : R} : ∀ (c : Code) (h : Ht) (s : ASt W.S.τ) (K : Kn W.S.τ R) (a : Act) (w : World) (Q : Exit → Act → World → Prop), exC W N n c h s K = some r → Hold W.P W.S C N s a w → KOk W.P W.S C N K r Q → c.wp W.P Q a w := by
  intro c
  induction c with
  | skip => intro h s K a w Q he hH hK; exact wp_skip (hK.nrm s a w he hH)
  | region id ops draw => intro h s K a w Q he hH hK; exact exReg_sound hW hm he hH fun s' a' w' h1 h2 => hK.nrm s' a' w' h1 h2
  | seq x y ihx ihy =>
    intro h s K a w Q he hH hK
    refine c_seq x y rfl fun κ hκ => ?_
    exact ihx _ _ _ _ _ _ he hH ⟨fun s' a' w' h1 h2 => hκ _ _ (ihy _ _ _ _ _ _ h1 h2 hK), fun id f hf s' a' w' h1 h2 => hK.exs id f hf s' a' w' h1 h2, fun s' a' w' h1 h2 => hK.ret s' a' w' h1 h2⟩
  | cond x t e iht ihe =>
    intro h s K a w Q he hH hK
    have hval : ∀ y, evO s.env x = some y → ∃ ρ Ps, RelAV W.S ρ Ps y (a.eval x) := fun y hy => by
      obtain ⟨ρ, As, Ps, h'⟩ := hH
      exact ⟨ρ, Ps, evO_rel h'.env x y hy⟩
    simp only [exC] at he
    split at he
    · rename_i b hx
      obtain ⟨ρ, Ps, hv⟩ := hval _ hx
      have hv : a.eval x = .bool b := hv
      cases b with
      | true => exact wp_cond hv (iht _ _ _ _ _ _ he hH hK)
      | false => exact wp_cond hv (ihe _ _ _ _ _ _ he hH hK)
    · rename_i neg b hx
      obtain ⟨ρ, Ps, c, hv, hc⟩ := hval _ hx
      cases neg with
      | false =>
        have h1 := nilC_some he hc
        cases c with
        | true => exact wp_cond hv (iht _ _ _ _ _ _ h1 hH hK)
        | false => exact wp_cond hv (ihe _ _ _ _ _ _ h1 hH hK)
      | true =>
        have h1 := nilC_some he hc
        cases c with
        | true => exact wp_cond hv (ihe _ _ _ _ _ _ h1 hH hK)
        | false => exact wp_cond hv (iht _ _ _ _ _ _ h1 hH hK)
    · rename_i b hx
      obtain ⟨ρ, Ps, hv⟩ := hval _ hx
      have hv : a.eval x = .bool b := hv
      split at he
      · cases b with
        | true => exact wp_cond hv (iht _ _ _ _ _ _ he hH hK)
        | false => exact wp_cond hv (ihe _ _ _ _ _ _ he hH hK)
      · rename_i p hp
        have hj : KOk W.P W.S C N ⟨jump W.S p fun x : p.T W.S.τ => K.nrm (putS W.S p x), K.exs, K.ret⟩ r Q := by
          refine ⟨fun s' a' w' h1 h2 => ?_, hK.exs, hK.ret⟩
          obtain ⟨y, h3, h4⟩ := jump_ok hW.ok h1 h2
          exact hK.nrm _ _ _ h3 h4
        unfold jn at he
        cases b with
        | true => exact wp_cond hv (iht _ _ _ _ _ _ he hH hj)
        | false => exact wp_cond hv (ihe _ _ _ _ _ _ he hH hj)
    · cases he
  | block id b ih =>
    intro h s K a w Q he hH hK
    have key : ∀ (nrm : ASt W.S.τ → Option R), (∀ s' a' w', nrm s' = some r → Hold W.P W.S C N s' a' w' → Q .normal a' w') → KOk W.P W.S C N ⟨nrm, (id, nrm) :: K.exs, K.ret⟩ r (Exit.inBlock id Q) := fun nrm hn => by
      refine ⟨hn, fun i f hf s' a' w' h1 h2 => ?_, hK.ret⟩
      simp only [lookX] at hf
      split at hf
      · rename_i hb
        obtain rfl := Nat.eq_of_beq_eq_true hb
        obtain rfl := someI' hf
        simp only [Exit.inBlock, if_true]
        exact hn s' a' w' h1 h2
      · rename_i hb
        have hne : i ≠ id := fun e => by rw [e, show Nat.beq id id = true from Nat.beq_eq ▸ rfl] at hb; cases hb
        simp only [Exit.inBlock, if_neg hne]
        exact hK.exs i f hf s' a' w' h1 h2
    simp only [exC] at he
    split at he
    · exact wp_block (ih _ _ _ _ _ _ he hH (key _ hK.nrm))
    · rename_i p hp
      unfold jn at he
      refine wp_block (ih _ _ _ _ _ _ he hH (key _ fun s' a' w' h1 h2 => ?_))
      obtain ⟨y, h3, h4⟩ := jump_ok hW.ok h1 h2
      exact hK.nrm _ _ _ h3 h4
  | loop b ih =>
    intro h s K a w Q he hH hK
    simp only [exC] at he
    split at he
    · rename_i p hp
      split at he
      · rename_i x hx
        refine c_loop b rfl (fun m a w => ∃ x : p.T W.S.τ, loopF (fun (self : p.T W.S.τ → Option R) x => exC W N n b h.l (putS W.S p x) ⟨jump W.S p self, K.exs, K.ret⟩) m x = some r ∧ Hold W.P W.S C N (putS W.S p x) a w) n ⟨x, he, rdS_hold hW.ok hx hH⟩ ?_
        rintro m a' w' ⟨y, hy, hHy⟩ κ hκ
        cases m with
        | zero => cases hy
        | succ m =>
          refine ih _ _ _ _ _ _ hy hHy ⟨fun s2 a2 w2 h1 h2 => ?_, hK.exs, hK.ret⟩
          obtain ⟨z, h3, h4⟩ := jump_ok hW.ok h1 h2
          exact hκ m _ _ (Nat.lt_succ_self _) ⟨z, h3, h4⟩
      · cases he
    · cases he
  | rangeFunc f ps x b _ _ => intro h s K a w Q he hH hK; cases he
  | exit id =>
    intro h s K a w Q he hH hK
    simp only [exC] at he
    split at he
    · rename_i f hf; exact wp_exit (hK.exs id f hf s a w he hH)
    · cases he
  | scope b ih =>
    intro h s K a w Q he hH hK
    exact wp_scope_straight (ih _ _ _ _ _ _ he hH ⟨hK.nrm, hK.exs, hK.ret⟩)
  | label l => intro h s K a w Q he hH hK; exact wp_label (hK.nrm s a w he hH)
  | goto l => intro h s K a w Q he hH hK; cases he
  | ret => intro h s K a w Q he hH hK; exact wp_ret (hK.ret s a w he hH)
  | refuse _ => intro h s K a w Q he hH hK; cases he
end

/-! ### Functions -/
section
def resE {S : Tab} (P : Program) (s : ASt S.τ) : List ResultVar → Option (List (A1 S.τ))
  | [] => some []
  | .tmp t :: r => match look s.env t, resE P s r with
    | some (.v x), some xs => some (x :: xs)
    | _, _ => none
  | .cell t ty :: r => match look s.env t, resE P s r with
    | some (.v (.one (.box k 0))), some xs => match lookI s.its k with
      | some (.box ls) => match ldV P ty (ls.take (szOf P ty)) with
        | some x => some (x :: xs)
        | none => none
      | _ => none
    | _, _ => none
def ogRes (ks : List Nat) (org : Mp) : Nat → List (Option Nat × PI) → Bool
  | _, [] => true
  | r, (some j, _) :: rest => (match mpGet org j, ks[r]? with
    | some k, some k' => Nat.beq k k'
    | _, _ => false) && ogRes ks org (r + 1) rest
  | r, (none, _) :: rest => ogRes ks org (r + 1) rest
/-- What was handed over, among what comes back. -/
def seedRi (org : Mp) : Nat → List (Option Nat × PI) → Mp
  | _, [] => []
  | r, (some j, _) :: rest => match mpGet org j with
    | some k => (r, k) :: seedRi org (r + 1) rest
    | none => seedRi org (r + 1) rest
  | r, (none, _) :: rest => seedRi org (r + 1) rest
def idMp : Nat → Nat → Mp
  | _, 0 => []
  | k, n + 1 => (k, k) :: idMp (k + 1) n
/-- What a state answers. -/
def finF (W : Wk) {Rt : Type} (rs : List ResultVar) (rv : List PV) (ri : List (Option Nat × PI)) (mk : PVsT W.S.τ rv (PIsT W.S.τ (ri.map (·.2)) Unit) → Rt) (s : ASt W.S.τ) : Option Rt := match resE W.P s rs with
  | some as => match rdA W.S (seedRi s.org 0 ri) rv (ri.map (·.2)) s as with
    | some (y, ks) => match ogRes ks s.org 0 ri with
      | true => some (mk y)
      | false => none
    | none => none
  | none => none
/-- The executor on a whole function. -/
noncomputable def exFn (W : Wk) {Rt : Type} (N n : Nat) (fn : Func) (h : Ht) (av : List PV) (ai : List PI) (rv : List PV) (ri : List (Option Nat × PI)) (mk : PVsT W.S.τ rv (PIsT W.S.τ (ri.map (·.2)) Unit) → Rt) (x : PVsT W.S.τ av (PIsT W.S.τ ai Unit)) : Option Rt :=
  exC W N n (bodyOf fn) h ⟨ai.length, numE 0 (putVs W.S (fun j => j) av x).1, numI 0 (putIs W.S (fun j => j) ai (putVs W.S (fun j => j) av x).2).1, idMp 0 ai.length⟩ ⟨finF W fn.results.toList rv ri mk, [], finF W fn.results.toList rv ri mk⟩
theorem idMp_get : ∀ {n k i j : Nat}, mpGet (idMp k n) i = some j → i = j
  | 0, k, i, j, h => by cases h
  | n + 1, k, i, j, h => by
    simp only [idMp, mpGet] at h
    split at h
    · rename_i hb
      rw [← Nat.eq_of_beq_eq_true hb]
      exact someI' h
    · exact idMp_get h
def fullE (a : Act) (N : Nat) : Env := (List.range N).map fun t => (t, a.tmps.getD t undef)
theorem fullE_has {a : Act} {N : Nat} (hs : a.tmps.size = N) (hd : a.defers = []) : Has a N (fullE a N) := by
  have key : ∀ (l : List Nat) (t : Nat), hasK (l.map fun t => (t, a.tmps.getD t undef)) t = true → lk (l.map fun t => (t, a.tmps.getD t undef)) t = a.tmps.getD t undef := by
    intro l
    induction l with
    | nil => intro t h; cases h
    | cons x r ih =>
      intro t h
      simp only [List.map_cons, hasK, lk] at h ⊢
      split at h
      · rename_i hb; rw [← Nat.eq_of_beq_eq_true hb]
      · exact ih t h
  exact ⟨hs, hd, fun t ht => (key _ t ht).symm⟩
theorem fullE_get {a : Act} {N t : Nat} (ht : t < N) : hasK (fullE a N) t = true ∧ lk (fullE a N) t = a.tmps.getD t undef := by
  have key : ∀ (l : List Nat), t ∈ l → hasK (l.map fun t => (t, a.tmps.getD t undef)) t = true ∧ lk (l.map fun t => (t, a.tmps.getD t undef)) t = a.tmps.getD t undef := by
    intro l
    induction l with
    | nil => intro h; cases h
    | cons x r ih =>
      intro h
      simp only [List.map_cons, hasK, lk]
      cases hb : Nat.beq x t with
      | true => rw [Nat.eq_of_beq_eq_true hb]; exact ⟨rfl, rfl⟩
      | false =>
        refine ih ?_
        rcases List.mem_cons.1 h with e | h
        · rw [e, show Nat.beq x x = true from Nat.beq_eq ▸ rfl] at hb; cases hb
        · exact h
  exact key _ (List.mem_range.2 ht)
theorem resE_run {P : Program} {S : Tab} {C : Cy} {N : Nat} {s : ASt S.τ} {a : Act} {w : World} {ρ : Rho} {As : List Asn} {Ps : List (World → Prop)} (hH : HoldR P S C N s a w ρ As Ps) : ∀ {rs : List ResultVar} {as : List (A1 S.τ)}, resE P s rs = some as → (∀ v ∈ rs, match v with | .tmp t => t < N | .cell t _ => t < N) →
    ∃ vs xs ps, resX P (fullE a N) rs vs = some (xs, ps) ∧ AllP w ps ∧ All2 (RelA1 S ρ Ps) as xs
  | [], as, h, _ => by obtain rfl := someI' h; exact ⟨[], [], [], rfl, trivial, trivial⟩
  | .tmp t :: r, as, h, hN => by
    simp only [resE] at h
    split at h
    · rename_i x xs h1 h2
      obtain rfl := someI' h
      obtain ⟨vs, ys, ps, g1, g2, g3⟩ := resE_run hH h2 fun v hv => hN v (List.mem_cons_of_mem _ hv)
      obtain ⟨k1, k2⟩ := fullE_get (a := a) (show t < N from hN (.tmp t) (List.mem_cons_self ..))
      exact ⟨vs, a.tmps.getD t undef :: ys, ps, by simp only [resX]; rw [k1, g1, k2], g2, hH.env t _ h1, g3⟩
    · cases h
  | .cell t ty :: r, as, h, hN => by
    simp only [resE] at h
    split at h
    · rename_i k xs h1 h2
      split at h
      · rename_i ls hk
        split at h
        · rename_i x hx
          obtain rfl := someI' h
          obtain ⟨vs, ys, ps, g1, g2, g3⟩ := resE_run hH h2 fun v hv => hN v (List.mem_cons_of_mem _ hv)
          obtain ⟨k1, k2⟩ := fullE_get (a := a) (show t < N from hN (.cell t ty) (List.mem_cons_self ..))
          obtain ⟨As1, hp1, hi⟩ := All2.perm (er1_perm hk) hH.its
          obtain ⟨A, As', rfl, hA, _⟩ := All2.cons_left hi
          obtain ⟨g, us, hg, rfl, hr⟩ := box_open hA
          obtain ⟨g', hg', hv⟩ := hH.env t _ h1
          rw [hg] at hg'
          obtain rfl := someI' hg'
          have hown : Own w g.b us := (hH.st.perm hp1).own _ (List.mem_cons_self ..)
          obtain ⟨v, hv1, hv2⟩ := ldV_rel hx (hr.take (szOf P ty))
          have hc : CellsAt w ⟨g.b, 0, none⟩ (us.take (szOf P ty)) := by
            have := hown.cells.sub 0 (szOf P ty)
            rwa [add_zero', List.drop_zero] at this
          unfold loadV at hv1
          split at hv1
          · rename_i i ha hi'
            split at hv1
            · rename_i hb
              obtain rfl := someI' hv1
              exact ⟨us.take (szOf P ty) :: vs, .agg (us.take (szOf P ty)).toArray :: ys, (fun w => CellsAt w ⟨g.b, 0, none⟩ (us.take (szOf P ty))) :: ps, by simp only [resX]; rw [k1, k2, hv, hi', ha]; simp only; rw [hb, g1], ⟨hc, g2⟩, hv2, g3⟩
            · cases hv1
          · rename_i i ha hi'
            split at hv1
            · rename_i c he
              obtain rfl := someI' hv1
              rw [he] at hc
              exact ⟨[c] :: vs, c :: ys, (fun w => CellsAt w ⟨g.b, 0, none⟩ [c]) :: ps, by simp only [resX]; rw [k1, k2, hv, hi', ha]; simp only; rw [g1], ⟨hc, g2⟩, hv2, g3⟩
            · cases hv1
          · cases hv1
        · cases h
      · cases h
    · cases h
theorem ogRes_get {ks : List Nat} {org : Mp} : ∀ {ri : List (Option Nat × PI)} {r : Nat}, ogRes ks org r ri = true → ∀ q j p, ri[q]? = some (some j, p) → ∃ k, mpGet org j = some k ∧ ks[r + q]? = some k
  | [], r, _, q, j, p, h => by simp at h
  | (some j0, p0) :: rest, r, hh, q, j, p, h => by
    simp only [ogRes, Bool.and_eq_true] at hh
    cases q with
    | zero =>
      simp only [List.getElem?_cons_zero, Option.some.injEq, Prod.mk.injEq] at h
      obtain ⟨rfl, rfl⟩ := h
      have h1 := hh.1
      split at h1
      · rename_i k k' e1 e2
        exact ⟨k, e1, by rw [Nat.add_zero, e2, Nat.eq_of_beq_eq_true h1]⟩
      · cases h1
    | succ q =>
      obtain ⟨k, e1, e2⟩ := ogRes_get hh.2 q j p (by simpa using h)
      exact ⟨k, e1, by rw [← e2]; congr 1; omega⟩
  | (none, p0) :: rest, r, hh, q, j, p, h => by
    simp only [ogRes] at hh
    cases q with
    | zero => simp at h
    | succ q =>
      obtain ⟨k, e1, e2⟩ := ogRes_get hh q j p (by simpa using h)
      exact ⟨k, e1, by rw [← e2]; congr 1; omega⟩
def resLt (N : Nat) : List ResultVar → Bool
  | [] => true
  | .tmp t :: r => Nat.blt t N && resLt N r
  | .cell t _ :: r => Nat.blt t N && resLt N r
theorem resLt_all {N : Nat} : ∀ {rs : List ResultVar}, resLt N rs = true → ∀ v ∈ rs, match v with | .tmp t => t < N | .cell t _ => t < N
  | [], _, v, hv => by cases hv
  | .tmp t :: r, h, v, hv => by
    simp only [resLt, Bool.and_eq_true] at h
    rcases List.mem_cons.1 hv with rfl | hv
    · exact (Nat.blt_eq ▸ h.1 : t < N)
    · exact resLt_all h.2 v hv
  | .cell t ty :: r, h, v, hv => by
    simp only [resLt, Bool.and_eq_true] at h
    rcases List.mem_cons.1 hv with rfl | hv
    · exact (Nat.blt_eq ▸ h.1 : t < N)
    · exact resLt_all h.2 v hv
theorem putVs_len {S : Tab} {r : Type} (m : Nat → Nat) : ∀ (ps : List PV) (z : PVsT S.τ ps r), (putVs S m ps z).1.length = ps.length
  | [], z => rfl
  | p :: ps, z => by simp [putVs, putVs_len m ps]
/-- A function does what its twin says. -/
theorem fn_ok {W : Wk} (hW : WkOk W) (hm : W.P.follows .mixedOrders = true) {c : Ct W.S} (N : Nat) (fn : Func) (h : Ht) (hf : W.P.funcs[c.g]? = some fn) (hc : ∀ args w, (callFunc c.g args).run W.P w = .ok (.enter c.g args) w) (hb : fn.body = some (bodyOf fn)) (hn : fn.ntmps = N) (hs : Nat.ble c.av.length N = true) (hr : resLt N fn.results.toList = true)
    (he : ∀ n x, c.f n x = exFn W N n fn h c.av c.ai c.rv c.ri c.mk' x) : OkC W.P W.S c := by
  refine ⟨hc, fun n x y hy R w ρ As Ps args hst hdom hargs hits => ?_⟩
  rw [he] at hy
  have hlen : args.length = c.av.length := by rw [← hargs.len, putVs_len]
  refine enter N hf hb hn (by simp [hlen]; exact Nat.le_of_ble_eq_true hs) fun a hA => ?_
  have hnum : ∀ {α : Type} (k : Nat) (xs : List α), (numI k xs).length = xs.length := by
    intro α k xs
    induction xs generalizing k with
    | nil => rfl
    | cons x r ih => simp [numI, ih]
  have hH : Hold W.P W.S ⟨⟨R, fps As, w⟩, ρ⟩ N ⟨c.ai.length, numE 0 (putVs W.S (fun j => j) c.av x).1, numI 0 (putIs W.S (fun j => j) c.ai (putVs W.S (fun j => j) c.av x).2).1, idMp 0 c.ai.length⟩ a w := by
    refine ⟨ρ, As, Ps, hst, Keep.refl _ _, fun b hb => .inl hb, hA.size, hA.defers, fun t z hz => ?_, hits, hdom, fun i k g h1 h2 => by rw [← idMp_get h1]; exact h2⟩
    obtain ⟨i, u, rfl, h1, rfl⟩ := numE_look hz
    obtain ⟨v, h2, h3⟩ := hargs.get h1
    have : a.tmps.getD (0 + i) undef = v := by
      rw [Nat.zero_add]
      have key : ∀ (l : List Value) (k : Nat), l[i]? = some v → hasK ((l.zipIdx k).map fun p => (p.2, p.1)) (k + i) = true ∧ lk ((l.zipIdx k).map fun p => (p.2, p.1)) (k + i) = v := by
        clear h1 h2 hz h3
        induction i with
        | zero =>
          intro l k hl
          cases l with
          | nil => simp at hl
          | cons z r =>
            simp at hl
            subst hl
            simp only [List.zipIdx_cons, List.map_cons, hasK, lk, Nat.add_zero]
            rw [show Nat.beq k k = true from Nat.beq_eq ▸ rfl]; exact ⟨rfl, rfl⟩
        | succ i ih =>
          intro l k hl
          cases l with
          | nil => simp at hl
          | cons z r =>
            simp only [List.zipIdx_cons, List.map_cons, hasK, lk]
            have : Nat.beq k (k + (i + 1)) = false := by
              cases hb : Nat.beq k (k + (i + 1)) with
              | false => rfl
              | true => have := Nat.eq_of_beq_eq_true hb; omega
            rw [this]
            have := ih r (k + 1) (by simpa using hl)
            rwa [show k + 1 + i = k + (i + 1) from by omega] at this
      obtain ⟨g1, g2⟩ := key args 0 h2
      rw [Nat.zero_add] at g1 g2
      have := hA.get i g1
      simp only [List.toList_toArray] at this
      rw [this]; exact g2
    rw [this]; exact h3
  have hfin : ∀ (s : ASt W.S.τ) (a' : Act) (w' : World), finF W fn.results.toList c.rv c.ri c.mk' s = some y → Hold W.P W.S ⟨⟨R, fps As, w⟩, ρ⟩ N s a' w' → ∀ (e : Exit), (e = .normal ∨ e = .ret) → bodyPost W.P fn (fun e w' => ∃ v ρ' As' Ps', e = .returned v ∧ ResOk W.P W.S c ρ (c.un y) v As' ρ' Ps' ∧ Keep (fps As) w w' ∧ St R w' As' Ps' ∧ ∀ b ∈ fps As', b ∈ fps As ∨ w.heap.size ≤ b) e a' w' := by
    intro s a' w' hs' hH' e hee
    unfold finF at hs'
    obtain ⟨ρ1, As1, Ps1, hH'⟩ := hH'
    split at hs'
    · rename_i as has
      split at hs'
      · rename_i y0 ks hra
        split at hs'
        · rename_i hog
          obtain rfl := someI' hs'
          rw [c.um]
          obtain ⟨vs, xs, ps, g1, g2, g3⟩ := resE_run hH' has (resLt_all hr)
          obtain ⟨ρ2, As2, Ps2, h1, h2, h3, h4, h5, h6⟩ := rdA_ok (P := W.P) (C := ⟨⟨R, fps As, w⟩, ρ⟩) (w := w') hW.ok hra ⟨hH'.st, hH'.keep, hH'.old, g3, hH'.its, hH'.dom, hH'.org⟩
          have hret := retG (P := W.P) (R := fun e w' => ∃ v ρ' As' Ps', e = .returned v ∧ ResOk W.P W.S c ρ y0 v As' ρ' Ps' ∧ Keep (fps As) w w' ∧ St R w' As' Ps' ∧ ∀ b ∈ fps As', b ∈ fps As ∨ w.heap.size ≤ b) (fn := fn) (fullE_has hH'.size hH'.dfr) fn.results.toList vs xs ps (by simp) g1 g2 ?_
          · rcases hee with rfl | rfl
            · exact hret
            · exact hret
          · refine ⟨_, ρ2, As2, Ps2, rfl, ⟨?_, h4, fun r g hg => by have := h5 r g hg; simpa using this, fun r j p g hj hg => ?_⟩, hH'.keep, h1, h2⟩
            · match hps : (putVs W.S (fun j => j) c.rv y0).1, xs, h3 with
              | [], [], _ => exact ⟨[], rfl, trivial⟩
              | [z], [u], h3 => exact h3.1
              | z :: z' :: zs, u :: u' :: us, h3 => exact ⟨_, rfl, h3⟩
            · obtain ⟨k, e1, e2⟩ := ogRes_get hog r j p hj
              rw [Nat.zero_add] at e2
              exact h6 j k r g e1 e2 hg
        · cases hs'
      · cases hs'
    · cases hs'
  refine exC_sound hW hm (bodyOf fn) h _ _ a w _ hy hH ⟨?_, ?_, ?_⟩
  · intro s a' w' h1 h2
    exact hfin s a' w' h1 h2 _ (.inl rfl)
  · intro id f hf
    cases hf
  · intro s a' w' h1 h2
    exact hfin s a' w' h1 h2 _ (.inr rfl)
end
end Go.Bur
