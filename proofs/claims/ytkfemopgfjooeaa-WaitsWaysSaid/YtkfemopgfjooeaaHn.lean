/- Contracts written by hand (slices.Delete, Insert, Grow): from cells as they stand to rows of whatever type. -/
import Derived.Test.YtkfemopgfjooeaaTa
namespace Go.Bur
open Go.RowKit
set_option linter.unusedVariables false
set_option linter.unusedSimpArgs false

/-- Cells as they stand. -/
abbrev Raw (sz : Nat) : Type := {l : List Value // l.length = sz ∧ ∀ v ∈ l, v.oneCell' = true}
@[reducible] def rawF (sz : Nat) : Flat (Raw sz) where
  sz := sz
  enc x := x.1
  len x := x.2.1
  one x := x.2.2
section
variable {α : Type} {G : GoT α} {w : World} {m : Nat}
theorem reps_raw (hm : G.sz = m) {cs : List Value} {l : List α} (h : Reps G w cs l) : ∃ xs : List (Raw m), cs = xs.flatMap (rawF m).enc ∧ xs.length = l.length := by
  subst hm
  induction h with
  | nil => exact ⟨[], rfl, rfl⟩
  | cons h1 _ ih =>
    obtain ⟨xs, rfl, h2⟩ := ih
    exact ⟨⟨_, G.len h1, G.one h1⟩ :: xs, by rw [List.flatMap_cons]; rfl, by simp [h2]⟩
theorem reps_all (hm : G.sz = m) : ∀ {xs : List (Raw m)} {l : List α}, xs.length = l.length → Reps G w (xs.flatMap (rawF m).enc) l → All2 (fun x y => G.rep w x.1 y) xs l
  | [], [], _, _ => trivial
  | x :: xs, y :: l, hn, h => by
    rw [List.flatMap_cons] at h
    generalize hc : (rawF m).enc x ++ xs.flatMap (rawF m).enc = cs at h
    cases h with
    | cons h1 h2 =>
      obtain ⟨e1, e2⟩ := List.append_inj hc (by rw [G.len h1, hm]; exact x.2.1)
      subst e2
      refine ⟨?_, reps_all hm (by simpa using hn) h2⟩
      show G.rep w ((rawF m).enc x) y
      rw [e1]; exact h1
theorem all_reps : ∀ {xs : List (Raw m)} {l : List α}, All2 (fun x y => G.rep w x.1 y) xs l → Reps G w (xs.flatMap (rawF m).enc) l
  | [], [], _ => .nil
  | x :: xs, y :: l, h => by
    rw [List.flatMap_cons]
    exact .cons h.1 (all_reps h.2)
end

/-! ### What is kept of a row (slices.DeleteFunc) -/
def keepF {α : Type} (l : List α) (bs : List Bool) : List α := ((l.zip bs).filter fun p => !p.2).map (·.1)
theorem keepF_cons {α : Type} {x : α} {l : List α} {y : Bool} {bs : List Bool} : keepF (x :: l) (y :: bs) = cond y (keepF l bs) (x :: keepF l bs) := by
  unfold keepF
  rw [List.zip_cons_cons, List.filter_cons]
  cases y <;> rfl
theorem keepF_all {α : Type} : ∀ {l : List α} {bs : List Bool}, bs.length = l.length → (∀ y ∈ bs, y = false) → keepF l bs = l
  | [], _, _, _ => rfl
  | x :: l, [], h, _ => by cases h
  | x :: l, y :: bs, h, hb => by
    rw [keepF_cons, hb y (List.mem_cons_self ..), keepF_all (by simpa using h) fun z hz => hb z (List.mem_cons_of_mem _ hz)]
    rfl
theorem keepF_snoc {α : Type} {x : α} {y : Bool} : ∀ {l : List α} {bs : List Bool}, bs.length = l.length → keepF (l ++ [x]) (bs ++ [y]) = keepF l bs ++ cond y [] [x]
  | [], [], _ => by cases y <;> rfl
  | [], _ :: _, h => by cases h
  | _ :: _, [], h => by cases h
  | z :: l, u :: bs, h => by
    rw [List.cons_append, List.cons_append, keepF_cons, keepF_cons, keepF_snoc (by simpa using h)]
    cases u <;> rfl
theorem wrap_s {i : Nat} (h : i < 4611686018427387904) : IntKind.wrap .i64 ((i : Int) + 1) = ((i + 1 : Nat) : Int) := by rw [IntKind.wrap_i64]; omega
theorem Sy.env4 {C : Cx} {n : Nat} {a : Act} {w : World} {As : List Asn} {Ps : List (World → Prop)} {x0 x1 x5 x6 x7 x29 : Value} (h : Sy C n a w [(0, x0), (1, x1), (5, x5), (6, x6), (7, x7), (29, x29)] As Ps) : Sy C n a w [(0, x0), (1, x1), (5, x5), (6, x6)] As Ps := ⟨h.has.keep [0, 1, 5, 6] rfl, h.st, h.keep, h.old⟩

section
variable (S : Tab)
end
section
variable {P : Program} {S : Tab} {ρ : Rho} {Ps : List (World → Prop)} {R : List Nat} {w : World} {m : Nat}
/-- A row out of its cells. -/
theorem row_raw (ok : TabOk S) {As : List Asn} (hst : St R w As Ps) {k e : Nat} {t : Ty} (hm : S.sz t = m) {l : List (Dn S.τ t)} {A : Asn} (hA : RelItem S ρ Ps P (k, .row e t l) A) :
    ∃ (g : Gh) (xs : List (Raw m)), ρ k = some g ∧ A = rowF (rawF m) e g.a g.c xs ∧ xs.length = l.length ∧ g.n = xs.length ∧ RepsB (S.GT t) (xs.flatMap (rawF m).enc) l ∈ Ps := by
  obtain ⟨g, cs, h1, rfl, h2, h3⟩ := hA
  have hz := (sz_eq ok t).trans hm
  obtain ⟨xs, rfl, h4⟩ := reps_raw hz (hst.per _ h3).here
  exact ⟨g, xs, h1, by rw [h2, hm, ← h4]; rfl, h4, by rw [h2, h4], h3⟩
/-- A new row as the one answer. -/
theorem row_back (ok : TabOk S) {t : Ty} (hm : S.sz t = m) {e : Nat} {a : Option Addr} {c : Nat} {xs : List (Raw m)} {l : List (Dn S.τ t)} {F : List Nat} {w0 w' : World} (hn : xs.length = l.length)
    (hst : St R w' [rowF (rawF m) e a c xs] Ps) (hr : ∀ w2, (∀ p ∈ Ps, p w2) → Reps (S.GT t) w2 (xs.flatMap (rawF m).enc) l) {c' : Ct S} {ρ : Rho} {y : PVsT S.τ c'.rv (PIsT S.τ (c'.ri.map (·.2)) Unit)}
    (h1 : (putVs S (fun j => j) c'.rv y).1 = [.one (.own 0)]) (h2 : (putIs S (fun j => j) (c'.ri.map (·.2)) (putVs S (fun j => j) c'.rv y).2).1 = [.row e t l]) (h3 : c'.ri = [(none, .row e t)]) :
    ∃ ρ' As' Ps', ResOk P S c' ρ y (.slice a xs.length c) As' ρ' Ps' ∧ St R w' As' Ps' ∧ As' = [rowF (rawF m) e a c xs] := by
  refine ⟨fun k => match k with | 0 => some ⟨a, c, xs.length, 0, noJ, noS⟩ | _ + 1 => none, [rowF (rawF m) e a c xs], RepsB (S.GT t) (xs.flatMap (rawF m).enc) l :: Ps, ⟨?_, ?_, ?_, ?_⟩, ?_, rfl⟩
  · rw [h1]; exact ⟨_, rfl, rfl⟩
  · rw [h2]; exact ⟨⟨_, _, rfl, by rw [hm]; rfl, hn, List.mem_cons_self ..⟩, trivial⟩
  · intro r g hg
    rw [h3]
    cases r with
    | zero => exact Nat.zero_lt_one
    | succ r => cases hg
  · intro r j p g hj
    rw [h3] at hj
    cases r with
    | zero => simp at hj
    | succ r => simp at hj
  · refine hst.addPs (ps := [RepsB (S.GT t) (xs.flatMap (rawF m).enc) l]) fun p hp w2 hk => ?_
    simp only [List.mem_singleton] at hp
    subst hp
    exact hr w2 fun p hp => hst.per p hp w2 hk
/-! ### Rows with rows of their own -/
/-! ### slices.DeleteFunc -/
def bsF {α : Type} (f : α → Option Bool) : List α → Option (List Bool)
  | [] => some []
  | x :: l => (f x).bind fun b => (bsF f l).bind fun bs => some (b :: bs)
def fstOk (z : Int) (bs : List Bool) : Bool := (decide (z = -1) && bs.all (!·)) || (decide (0 ≤ z) && (match bs[z.toNat]? with | some b => b | none => false) && (bs.take z.toNat).all (!·))
def delF {α : Type} (f : α → Option Bool) (z : Int) (l : List α) : Option (List α) := (bsF f l).bind fun bs => if fstOk z bs = true ∧ l.length < 4611686018427387904 then some (keepF l bs) else none
theorem bsF_len {α : Type} {f : α → Option Bool} : ∀ {l : List α} {bs : List Bool}, bsF f l = some bs → bs.length = l.length
  | [], bs, h => by obtain rfl := someI' h; rfl
  | x :: l, bs, h => by
    obtain ⟨b, _, h⟩ := bindS h
    obtain ⟨bs', h2, h⟩ := bindS h
    obtain rfl := someI' h
    rw [List.length_cons, List.length_cons, bsF_len h2]
theorem bsF_at {α : Type} {f : α → Option Bool} : ∀ {l : List α} {bs : List Bool}, bsF f l = some bs → ∀ (j : Nat) (x : α) (b : Bool), l[j]? = some x → bs[j]? = some b → f x = some b
  | [], bs, h, j, x, b, h1, _ => by simp at h1
  | y :: l, bs, h, j, x, b, h1, h3 => by
    obtain ⟨b', hb, h⟩ := bindS h
    obtain ⟨bs', h2, h⟩ := bindS h
    obtain rfl := someI' h
    cases j with
    | zero =>
      simp at h1 h3
      subst h1 h3
      exact hb
    | succ j => exact bsF_at h2 j x b (by simpa using h1) (by simpa using h3)
theorem fstOk_or {z : Int} {bs : List Bool} (h : fstOk z bs = true) : (z = -1 ∧ ∀ y ∈ bs, y = false) ∨ ∃ k : Nat, z = (k : Int) ∧ bs[k]? = some true ∧ ∀ y ∈ bs.take k, y = false := by
  unfold fstOk at h
  simp only [Bool.or_eq_true, Bool.and_eq_true, decide_eq_true_eq, List.all_eq_true, Bool.not_eq_true'] at h
  rcases h with ⟨h1, h2⟩ | ⟨⟨h1, h2⟩, h3⟩
  · exact .inl ⟨h1, h2⟩
  · refine .inr ⟨z.toNat, by omega, ?_, h3⟩
    cases hb : bs[z.toNat]? with
    | none => rw [hb] at h2; cases h2
    | some b => rw [hb] at h2; rw [show b = true from h2]
theorem All2.keepF {α β : Type} {R : α → β → Prop} : ∀ {xs : List α} {ys : List β} {bs : List Bool}, All2 R xs ys → All2 R (Bur.keepF xs bs) (Bur.keepF ys bs)
  | [], [], _, _ => trivial
  | _ :: _, _ :: _, [], _ => trivial
  | x :: xs, y :: ys, b :: bs, h => by
    rw [keepF_cons, keepF_cons]
    cases b
    · exact ⟨h.1, All2.keepF h.2⟩
    · exact All2.keepF h.2
theorem keepF_len {α β : Type} {xs : List α} {ys : List β} (h : xs.length = ys.length) {bs : List Bool} : (keepF xs bs).length = (keepF ys bs).length :=
  (All2.keepF (R := fun _ _ => True) (bs := bs) (by
    induction xs generalizing ys with
    | nil => cases ys with
      | nil => trivial
      | cons _ _ => cases h
    | cons x xs ih => cases ys with
      | nil => cases h
      | cons y ys => exact ⟨trivial, ih (by simpa using h)⟩)).len
def isRoC : PC → Bool
  | .ro _ => true
  | .bx _ => false
def rho0 : Rho := fun _ => none
theorem ro_caps {ρ' : Rho} : ∀ {cs : List PC} {r : Type} {x : PCsT S.τ cs r} {vs : List Value}, cs.all isRoC = true → All2 (RelCap S ρ Ps) (putCs (fun j => j) cs x).1 vs → All2 (RelCap S ρ' Ps) (putCs (fun j => j) cs x).1 vs
  | [], _, _, vs, _, h => by have := All2.nil_left h; subst this; trivial
  | .ro t :: cs, _, x, vs, hc, h => by
    obtain ⟨v, vs', rfl, h1, h2⟩ := All2.cons_left h
    exact ⟨h1, ro_caps (by simpa [isRoC] using hc) h2⟩
  | .bx _ :: _, _, _, _, hc, _ => by simp [isRoC] at hc
/-- What the raw walk says, of a row whose cells read as l. -/
theorem dlf_core (ok : TabOk S) {i : Nat} {gi gd g e m : Nat} (hm : S.sz (.st i) = m) {cv : List Value} {Pf : List (World → Prop)} {xs : List (Raw m)} {l : List (S.τ i)} {fd : S.τ i → Option Bool} {bs : List Bool} {z : Int} {a0 : Option Addr} {c0 : Nat} (hbs : bsF fd l = some bs) (hz : fstOk z bs = true) (hlt : l.length < 4611686018427387904) (hn : xs.length = l.length)
    (hgi : ∀ args w, (callFunc gi args).run P w = .ok (.enter gi args) w) (hgd : ∀ args w, (callFunc gd args).run P w = .ok (.enter gd args) w)
    (hrep : ∀ (F : List Nat) (w : World), AllB F w Pf → Bx F w (fun w => Reps (S.GT (.st i)) w (xs.flatMap (rawF m).enc) l))
    (hI : ∀ (R : List Nat) (w : World) (Ps : List (World → Prop)) (v : Value), (∀ p ∈ Pf, p ∈ Ps) → St R w [] Ps → RelA1 S rho0 Ps (.one (.d (.sl (.st i)) l)) v → Calls P gi #[v, .func (.func gd) #[] cv.toArray] w fun e w' => e = .returned (.int .i64 z) ∧ Keep [] w w')
    (hD : ∀ (y : S.τ i) (b : Bool), fd y = some b → ∀ (R : List Nat) (w : World) (Ps : List (World → Prop)) (v : Value), (∀ p ∈ Pf, p ∈ Ps) → St R w [] Ps → RelA1 S rho0 Ps (canY S (.st i) y) v → Calls P gd (([v] ++ cv).toArray) w fun e w' => e = .returned (.bool b) ∧ Keep [] w w')
    (hraw : ∀ {a0 : Option Addr} {c0 gd : Nat} {cv : List Value} {Pf PI : List (World → Prop)} (p0 : List (Raw m)) (bs : List Bool) (hbl : bs.length = p0.length) (ix : Int)
      (hI : Meets P gi #[.slice a0 p0.length c0, .func (.func gd) #[] cv.toArray] [] PI fun v A P => v = .int .i64 ix ∧ A = [] ∧ P = [])
      (hPI : ∀ (F : List Nat) (w : World), AllB F w Pf → Bx F w (fun w => (rowF (rawF m) e a0 c0 p0).holds w) → AllB F w PI)
      (hix : (ix = -1 ∧ ∀ y ∈ bs, y = false) ∨ ∃ k : Nat, ix = (k : Int) ∧ bs[k]? = some true ∧ ∀ y ∈ bs.take k, y = false)
      (hD : ∀ (j : Nat) (x : Raw m) (y : Bool), p0[j]? = some x → bs[j]? = some y → Meets P gd (([Value.agg x.1.toArray] ++ cv).toArray) [] Pf fun v A P => v = .bool y ∧ A = [] ∧ P = []) (hsm : p0.length < 4611686018427387904),
      Meets P g #[.slice a0 p0.length c0, .func (.func gd) #[] cv.toArray] [rowF (rawF m) e a0 c0 p0] Pf fun v A P => ∃ (a : Option Addr) (c : Nat), v = .slice a (keepF p0 bs).length c ∧ A = [rowF (rawF m) e a c (keepF p0 bs)] ∧ P = []) :
    Meets P g #[.slice a0 xs.length c0, .func (.func gd) #[] cv.toArray] [rowF (rawF m) e a0 c0 xs] Pf fun v A P => ∃ (a : Option Addr) (c : Nat), v = .slice a (keepF xs bs).length c ∧ A = [rowF (rawF m) e a c (keepF xs bs)] ∧ P = [] := by
  have hszm : (S.GT (.st i)).sz = m := (sz_eq ok _).trans hm
  have hall : ∀ l : List (World → Prop), ∀ (F : List Nat) (w : World), (∀ p ∈ l, Bx F w p) → AllB F w l := fun l => by
    induction l with
    | nil => intro _ _ _; trivial
    | cons p r ih => intro F w h; exact ⟨h p (by simp), ih F w fun q hq => h q (by simp [hq])⟩
  refine hraw xs bs ((bsF_len hbs).trans hn.symm) z (PI := RSg (S.GT (.st i)) a0 c0 l :: Pf) ⟨hgi, fun R w hst => ?_⟩ (fun F w h1 h2 => ⟨fun w' hk => ?_, h1⟩) (fstOk_or hz) (fun j x y hx hy => ⟨hgd, fun R w hst => ?_⟩) (by rw [hn]; exact hlt)
  · refine Calls.mono (hI R w _ (.slice a0 xs.length c0) (fun p hp => List.mem_cons_of_mem _ hp) hst ⟨a0, c0, by rw [hn], .inr (List.mem_cons_self ..)⟩) fun e w' ⟨h1, h2⟩ => ⟨_, [], [], h1, ⟨rfl, rfl, rfl⟩, h2, ⟨by simp, fun b hb => Nat.lt_of_lt_of_le (hst.lt b hb) h2.size, hst.nd, by simp, fun p hp => (hst.gl p hp).step h2 (by simp) fun x hx => .inl hx⟩, by simp [fps]⟩
  · obtain ⟨h3, h4, h5⟩ := row_cells (h2 w' hk)
    exact (hrep F w h1 w' hk).rs h3 (by omega) fun hne => h5 fun e => hne (List.eq_nil_of_length_eq_zero (by omega))
  · have hbx : Bx (R ++ fps []) w (fun w => Reps (S.GT (.st i)) w (xs.flatMap (rawF m).enc) l) := hrep _ _ (hall _ _ _ hst.per)
    obtain ⟨y0, hy0⟩ : ∃ y0, l[j]? = some y0 := by
      obtain ⟨hj, _⟩ := List.getElem?_eq_some_iff.1 hx
      exact ⟨_, List.getElem?_eq_getElem (by omega)⟩
    have hel : Bx (R ++ fps []) w (fun w => (S.GT (.st i)).rep w x.1 y0) := fun w' hk => by
      obtain ⟨y1, h1, h2⟩ := (reps_all hszm hn (hbx w' hk)).get hx
      rw [hy0] at h1
      obtain rfl := someI' h1
      exact h2
    obtain ⟨ps, hps, hrel⟩ := rep_rel ok hel
    refine Calls.mono (hD y0 y (bsF_at hbs j y0 y hy0 hy) R w (ps ++ Pf) (.agg x.1.toArray) (fun p hp => List.mem_append_right _ hp) (hst.addPs hps) ⟨x.1, rfl, (hrel rho0).mono2 fun p hp => List.mem_append_left _ hp⟩) fun e w' ⟨h1, h2⟩ => ⟨_, [], [], h1, ⟨rfl, rfl, rfl⟩, h2, ⟨by simp, fun b hb => Nat.lt_of_lt_of_le (hst.lt b hb) h2.size, hst.nd, by simp, fun p hp => (hst.gl p hp).step h2 (by simp) fun x hx => .inl hx⟩, by simp [fps]⟩
theorem Meets.carry2 {g : FuncId} {args : Array Value} {As : List Asn} {Q : Value → List Asn → List (World → Prop) → Prop} (h : Meets P g args As Ps Q) (hst : St R w As Ps) :
    Calls P g args w fun e w' => ∃ v A' P', e = .returned v ∧ Q v A' P' ∧ Keep (fps As) w w' ∧ St R w' A' Ps ∧ ∀ b ∈ fps A', b ∈ fps As ∨ w.heap.size ≤ b := by
  refine Calls.mono (h.2 R w hst) fun e w' ⟨v, A', P', h1, h2, h3, h4, h5⟩ => ⟨v, A', P', h1, h2, h3, ⟨h4.own, h4.lt, h4.nd, fun p hp => ?_, h4.gl⟩, h5⟩
  refine (hst.per p hp).step h3 (fun x hx => .inl (List.mem_append_right _ hx)) fun x hx => ?_
  rcases List.mem_append.1 hx with hx | hx
  · exact .inl (List.mem_append_left _ hx)
  · rcases h5 x hx with h6 | h6
    · exact .inl (List.mem_append_right _ h6)
    · exact .inr h6
/-- What the walk over the raw cells is to say. -/
abbrev DlfRaw (P : Program) (g gi e m : Nat) : Prop := ∀ {a0 : Option Addr} {c0 gd : Nat} {cv : List Value} {Pf PI : List (World → Prop)} (p0 : List (Raw m)) (bs : List Bool) (hbl : bs.length = p0.length) (ix : Int)
      (hI : Meets P gi #[.slice a0 p0.length c0, .func (.func gd) #[] cv.toArray] [] PI fun v A P => v = .int .i64 ix ∧ A = [] ∧ P = [])
      (hPI : ∀ (F : List Nat) (w : World), AllB F w Pf → Bx F w (fun w => (rowF (rawF m) e a0 c0 p0).holds w) → AllB F w PI)
      (hix : (ix = -1 ∧ ∀ y ∈ bs, y = false) ∨ ∃ k : Nat, ix = (k : Int) ∧ bs[k]? = some true ∧ ∀ y ∈ bs.take k, y = false)
      (hD : ∀ (j : Nat) (x : Raw m) (y : Bool), p0[j]? = some x → bs[j]? = some y → Meets P gd (([Value.agg x.1.toArray] ++ cv).toArray) [] Pf fun v A P => v = .bool y ∧ A = [] ∧ P = []) (hsm : p0.length < 4611686018427387904),
      Meets P g #[.slice a0 p0.length c0, .func (.func gd) #[] cv.toArray] [rowF (rawF m) e a0 c0 p0] Pf fun v A P => ∃ (a : Option Addr) (c : Nat), v = .slice a (keepF p0 bs).length c ∧ A = [rowF (rawF m) e a c (keepF p0 bs)] ∧ P = []
abbrev DlfI (P : Program) (S : Tab) (gi gd i : Nat) (cs : List PC) (fI : Nat → PCsT S.τ cs (List (S.τ i) × Unit) → Option Int) : Prop := ∀ (n : Nat) (x : PCsT S.τ cs (List (S.τ i) × Unit)) (z : Int), fI n x = some z → ∀ (R : List Nat) (w : World) (Ps : List (World → Prop)) (v : Value) (cv : List Value), St R w [] Ps → RelA1 S rho0 Ps (.one (.d (.sl (.st i)) (putCs (τ := S.τ) (fun j => j) cs x).2.1)) v → All2 (RelCap S rho0 Ps) (putCs (fun j => j) cs x).1 cv →
  Calls P gi #[v, .func (.func gd) #[] cv.toArray] w fun e w' => e = .returned (.int .i64 z) ∧ Keep [] w w'
abbrev DlfD (P : Program) (S : Tab) (gd i : Nat) (cs : List PC) (fD : Nat → PCsT S.τ cs (List (S.τ i) × Unit) → S.τ i → Option Bool) : Prop := ∀ (n : Nat) (x : PCsT S.τ cs (List (S.τ i) × Unit)) (y : S.τ i) (b : Bool), fD n x y = some b → ∀ (R : List Nat) (w : World) (Ps : List (World → Prop)) (v : Value) (cv : List Value), St R w [] Ps → RelA1 S rho0 Ps (canY S (.st i) y) v → All2 (RelCap S rho0 Ps) (putCs (fun j => j) cs x).1 cv →
  Calls P gd (([v] ++ cv).toArray) w fun e w' => e = .returned (.bool b) ∧ Keep [] w w'
@[reducible] def dlfCt (S : Tab) (g gd e i : Nat) (cs : List PC) (fI : Nat → PCsT S.τ cs (List (S.τ i) × Unit) → Option Int) (fD : Nat → PCsT S.τ cs (List (S.τ i) × Unit) → S.τ i → Option Bool) : Ct S := ⟨g, [.one (.own 0), .one (.fn gd cs)], [.row e (.st i)], [.one (.own 0)], [(none, .row e (.st i))], List (S.τ i), fun y => (y, ()), fun y => y.1, fun _ => rfl, fun n x => (fI n x).bind fun z => delF (fD n x) z (putCs (τ := S.τ) (fun j => j) cs x).2.1⟩
theorem delF_some {α : Type} {f : α → Option Bool} {z : Int} {l y : List α} (h : delF f z l = some y) : ∃ bs, bsF f l = some bs ∧ fstOk z bs = true ∧ l.length < 4611686018427387904 ∧ y = keepF l bs := by
  obtain ⟨bs, h1, h⟩ := bindS h
  split at h
  · rename_i h2
    exact ⟨bs, h1, h2.1, h2.2, (someI' h).symm⟩
  · cases h
theorem dlf_ok (ok : TabOk S) {g gi gd e i : Nat} {cs : List PC} {fI : Nat → PCsT S.τ cs (List (S.τ i) × Unit) → Option Int} {fD : Nat → PCsT S.τ cs (List (S.τ i) × Unit) → S.τ i → Option Bool} (hm : S.sz (.st i) = m) (hcs : cs.all isRoC = true)
    (hc : ∀ args w, (callFunc g args).run P w = .ok (.enter g args) w) (hgi : ∀ args w, (callFunc gi args).run P w = .ok (.enter gi args) w) (hgd : ∀ args w, (callFunc gd args).run P w = .ok (.enter gd args) w)
    (hI : DlfI P S gi gd i cs fI) (hD : DlfD P S gd i cs fD) (hraw : DlfRaw P g gi e m) : OkC P S (dlfCt S g gd e i cs fI fD) := by
  refine ⟨hc, fun n x y hy R w ρ As Ps args hst hdom hargs hits => ?_⟩
  obtain ⟨v0, _, rfl, hv0, hargs⟩ := hargs.cons_left
  obtain ⟨v1, _, rfl, hv1, hargs⟩ := hargs.cons_left
  obtain rfl := hargs.nil_left
  obtain ⟨A, _, rfl, hA, hits⟩ := hits.cons_left
  obtain rfl := hits.nil_left
  obtain ⟨g', xs, hg, rfl, hn, hgn, hmem⟩ := row_raw ok hst hm hA
  obtain ⟨g2, hg2, hv0⟩ := hv0
  rw [hg] at hg2
  obtain rfl := someI' hg2
  obtain ⟨cv, hv1, hcv⟩ := hv1
  obtain ⟨z, hz, hy⟩ := bindS hy
  obtain ⟨bs, hb1, hb2, hlt, rfl⟩ := delF_some hy
  have hv0 : v0 = .slice g'.a xs.length g'.c := by rw [hv0, hgn]
  subst hv0 hv1
  have hcv0 := ro_caps (ρ' := rho0) hcs hcv
  have hM := dlf_core (P := P) (Pf := Ps) (gi := gi) (cv := cv) (a0 := g'.a) (c0 := g'.c) ok hm hb1 hb2 hlt hn hgi hgd (fun F w h => AllB.mem h _ hmem)
    (fun R w Ps' v hP hst hv => hI n x z hz R w Ps' v cv hst hv (hcv0.mono fun _ _ h => RelCap.mono (fun _ _ h => h) hP h))
    (fun y b hf R w Ps' v hP hst hv => hD n x y b hf R w Ps' v cv hst hv (hcv0.mono fun _ _ h => RelCap.mono (fun _ _ h => h) hP h)) hraw
  refine Calls.mono (hM.carry2 hst) fun e' w' ⟨v, A', P', h1, ⟨a, c, h2, h3, h4⟩, h5, h6, h7⟩ => ?_
  subst h2 h3
  obtain ⟨ρ', As', Ps', k1, k2, k3⟩ := row_back (P := P) (c' := dlfCt S g gd e i cs fI fD) (ρ := ρ) (y := (keepF (putCs (τ := S.τ) (fun j => j) cs x).2.1 bs, ())) ok hm (w0 := w) (F := []) (keepF_len hn) h6 (fun w2 hp => all_reps (All2.keepF (reps_all ((sz_eq ok _).trans hm) hn (hp _ hmem)))) rfl rfl rfl
  subst k3
  exact ⟨_, ρ', _, Ps', h1, k1, h5, k2, h7⟩
end
end Go.Bur
