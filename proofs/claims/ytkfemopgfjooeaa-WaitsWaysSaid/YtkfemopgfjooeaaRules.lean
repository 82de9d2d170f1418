/- The rules of a walk over the state: calls, appends, results, regions that draw their order. -/
import Derived.Test.YtkfemopgfjooeaaRun
namespace Go.Bur
open Go.RowKit
set_option linter.unusedVariables false
set_option linter.unusedSimpArgs false

def takeK : Nat → List Asn → Option (Asn × List Asn)
  | _, [] => none
  | 0, A :: r => some (A, r)
  | k + 1, B :: r => match takeK k r with
    | some (A, r') => some (A, B :: r')
    | none => none
def pickA : List Nat → List Asn → Option (List Asn × List Asn)
  | [], As => some ([], As)
  | k :: ks, As => match takeK k As with
    | some (A, r) => match pickA ks r with
      | some (p, r') => some (A :: p, r')
      | none => none
    | none => none
theorem takeK_perm : ∀ {k : Nat} {As : List Asn} {A : Asn} {r : List Asn}, takeK k As = some (A, r) → As.Perm (A :: r)
  | k, [], A, r, h => by cases k <;> simp [takeK] at h
  | 0, B :: s, A, r, h => by
    simp only [takeK, Option.some.injEq, Prod.mk.injEq] at h
    obtain ⟨rfl, rfl⟩ := h
    exact List.Perm.refl _
  | k + 1, B :: s, A, r, h => by
    simp only [takeK] at h
    split at h
    · rename_i A1 r1 hk
      simp only [Option.some.injEq, Prod.mk.injEq] at h
      obtain ⟨rfl, rfl⟩ := h
      exact ((takeK_perm hk).cons B).trans (List.Perm.swap _ _ _)
    · cases h
theorem pickA_perm : ∀ {ks : List Nat} {As p r : List Asn}, pickA ks As = some (p, r) → As.Perm (p ++ r)
  | [], As, p, r, h => by
    simp only [pickA, Option.some.injEq, Prod.mk.injEq] at h
    obtain ⟨rfl, rfl⟩ := h
    exact List.Perm.refl _
  | k :: ks, As, p, r, h => by
    simp only [pickA] at h
    split at h
    · rename_i A r1 hk
      split at h
      · rename_i p1 r2 hp
        simp only [Option.some.injEq, Prod.mk.injEq] at h
        obtain ⟨rfl, rfl⟩ := h
        exact (takeK_perm hk).trans ((pickA_perm hp).cons A)
      · cases h
    · cases h
def pickP (Ps : List (World → Prop)) : List Nat → Option (List (World → Prop))
  | [] => some []
  | k :: ks => match Ps[k]?, pickP Ps ks with
    | some p, some r => some (p :: r)
    | _, _ => none
theorem pickP_mem {Ps : List (World → Prop)} : ∀ {ks : List Nat} {Qs : List (World → Prop)}, pickP Ps ks = some Qs → ∀ q ∈ Qs, q ∈ Ps
  | [], Qs, h, q, hq => by
    simp only [pickP, Option.some.injEq] at h
    subst h
    cases hq
  | k :: ks, Qs, h, q, hq => by
    simp only [pickP] at h
    split at h
    · rename_i p r hk hr
      obtain rfl := someI' h
      rcases List.mem_cons.1 hq with rfl | hq
      · exact List.mem_of_getElem? hk
      · exact pickP_mem hr q hq
    · cases h

section
variable {P : Program} {ops : Array Oper} {Q : Exit → Act → World → Prop} {C : Cx} {n : Nat} {a : Act} {w : World} {L : Env} {As : List Asn} {Ps : List (World → Prop)}

/-- The state, told otherwise: slots, own things, facts picked out. -/
theorem Sy.to {L' : Env} {Bs Br : List Asn} {Qs : List (World → Prop)} (h : Sy C n a w L As Ps) (ks : List Nat) (pk : List Nat) (qs : List Nat) (hL : (match ks.all (hasK L) with | true => some (ks.map fun k => (k, lk L k)) | false => none) = some L')
    (hp : pickA pk As = some (Bs, Br)) (hq : pickP Ps qs = some Qs) : Sy C n a w L' Bs Qs := by
  have h1 := (h.perm (pickA_perm hp)).sub (pickP_mem hq)
  split at hL
  · rename_i hk
    obtain rfl := someI' hL
    exact ⟨h1.has.keep ks hk, h1.st, h1.keep, h1.old⟩
  · cases hL
theorem Sy.env {L' : Env} (h : Sy C n a w L As Ps) (e : L = L') : Sy C n a w L' As Ps := e ▸ h
theorem Sy.p (h : Sy C n a w L As Ps) (k : Nat) {p : World → Prop} (hk : Ps[k]? = some p) : Bx (C.fr As) w p := h.st.per p (List.mem_of_getElem? hk)
theorem Sy.addP {p : World → Prop} (h : Sy C n a w L As Ps) (hp : Bx (C.fr As) w p) : Sy C n a w L As (p :: Ps) :=
  ⟨h.has, ⟨h.st.own, h.st.lt, h.st.nd, fun q hq => by
    rcases List.mem_cons.1 hq with rfl | hq
    · exact hp
    · exact h.st.per q hq, h.st.gl⟩, h.keep, h.old⟩
/-- A thing of one's own, from now on for all to read. -/
theorem Sy.freeze {A : Asn} {As' : List Asn} (h : Sy C n a w L As Ps) (k : Nat) (hk : takeK k As = some (A, As')) (p : World → Prop) (hp : ∀ w, A.holds w → p w) : Sy C n a w L As' (p :: Ps) := by
  have h1 := h.perm ((takeK_perm hk).trans (List.perm_append_comm (l₁ := [A])))
  have h2 := h1.sub (Qs := Ps) fun _ h => h
  refine h2.addP fun w' hw' => hp w' ?_
  have hnd := h1.st.nd
  rw [fps_append, List.nodup_append, List.nodup_append] at hnd
  obtain ⟨_, ⟨_, _, hd⟩, hR⟩ := hnd
  refine Asn.same (h1.st.own A (by simp)) fun b hb => hw'.block b (h1.st.lt b ?_) fun hm => ?_
  · rw [fps_append]; simp only [List.mem_append]; exact .inr (.inr (by simpa [fps] using hb))
  · rcases List.mem_append.1 hm with hm | hm
    · exact hR b hm b (List.mem_append_right _ (by simpa [fps] using hb)) rfl
    · exact hd b hm b (by simpa [fps] using hb) rfl
/-! ### Calls -/
abbrev Up (C : Cx) (As : List Asn) (w : World) (F : List Nat) : Prop := ∀ {p : World → Prop}, Bx (C.fr As) w p → Bx F w p
abbrev Le (Al : List Asn) (w : World) (F : List Nat) : Prop := ∀ (k : Nat) {A : Asn}, Al[k]? = some A → ∀ (p : World → Prop), (∀ w, A.holds w → p w) → Bx F w p

theorem AllB.mem {F : List Nat} : ∀ {l : List (World → Prop)}, AllB F w l → ∀ p ∈ l, Bx F w p
  | [], _, p, hp => by cases hp
  | _ :: _, h, p, hp => by
    rcases List.mem_cons.1 hp with rfl | hp
    · exact h.1
    · exact AllB.mem h.2 p hp

theorem split3 {pk lk : List Nat} {Ag A1 Al Ar : List Asn} (hp : pickA pk As = some (Ag, A1)) (hl : pickA lk A1 = some (Al, Ar)) : As.Perm (Ag ++ (Al ++ Ar)) := (pickA_perm hp).trans ((pickA_perm hl).append_left Ag)

theorem lend_facts {R : List Nat} {pk lk : List Nat} {Ag A1 Al Ar : List Asn} (h : St R w As Ps) (hp : pickA pk As = some (Ag, A1)) (hl : pickA lk A1 = some (Al, Ar)) :
    (∀ {p : World → Prop}, Bx (R ++ fps As) w p → Bx (R ++ fps Ar ++ fps Ag) w p) ∧ Le Al w (R ++ fps Ar ++ fps Ag) := by
  have hs := split3 hp hl
  have h1 := h.perm hs
  have hin : ∀ x ∈ R ++ fps Ar ++ fps Ag, x ∈ R ++ fps As ∨ w.heap.size ≤ x := fun x hx => .inl (by
    have := (fps_perm hs).mem_iff (a := x)
    simp only [fps_append, List.mem_append] at this hx ⊢
    rw [this]
    rcases hx with (hx | hx) | hx
    · exact .inl hx
    · exact .inr (.inr (.inr hx))
    · exact .inr (.inl hx))
  refine ⟨fun hp => hp.weak hin, fun k A hk p hi w' hw' => hi w' ?_⟩
  have hA := List.mem_of_getElem? hk
  have hnd := h1.nd
  rw [fps_append, fps_append, List.nodup_append, List.nodup_append, List.nodup_append] at hnd
  obtain ⟨_, ⟨_, ⟨_, _, hd2⟩, hd1⟩, hR⟩ := hnd
  have hin2 : ∀ b ∈ A.fp, b ∈ fps Al := fun b hb => mem_fps.2 ⟨A, hA, hb⟩
  refine Asn.same (h1.own A (by simp [hA])) fun b hb => hw'.block b (h1.lt b ?_) fun hm => ?_
  · simp only [fps_append, List.mem_append]; exact .inr (.inr (.inl (hin2 b hb)))
  · rcases List.mem_append.1 hm with hm | hm
    · rcases List.mem_append.1 hm with hm | hm
      · exact hR b hm b (by simp only [List.mem_append]; exact .inr (.inl (hin2 b hb))) rfl
      · exact hd2 b (hin2 b hb) b hm rfl
    · exact hd1 b hm b (List.mem_append_left _ (hin2 b hb)) rfl

theorem r_callL (i : Nat) {j : Nat} (hij : Nat.blt i j = true) {d : Option Nat} {g : FuncId} {args : Array Value} (pk lk : List Nat) {Ag A1 Al Ar : List Asn} {Pg : List (World → Prop)} {QQ : Value → List Asn → List (World → Prop) → Prop}
    (hS : Sy C n a w L As Ps) (h : callAt n ops L i = some (d, g, args)) (hp : pickA pk As = some (Ag, A1)) (hl : pickA lk A1 = some (Al, Ar)) (hm : Meets P g args Ag Pg QQ)
    (hP : ∀ F, Up C As w F → Le Al w F → AllB F w Pg)
    (hK : ∀ v A' P' a w, QQ v A' P' → Sy C n a w (upd L d v) (A' ++ A1) Ps → (Al = [] → Sy C n a w (upd L d v) (A' ++ A1) (P' ++ Ps)) → wpList P ops Q (sg ops (i + 1) j) a w) : wpList P ops Q (sg ops i j) a w := by
  obtain ⟨hu, hle⟩ := lend_facts hS.st hp hl
  have hs := split3 hp hl
  have hst := hS.st.perm hs
  have hg := hst.lend (Pg := Pg) (AllB.mem (hP _ hu hle))
  refine wl_call i hij hS.has h hm.1 (hm.2 _ _ hg) ?_
  rintro e w' ⟨v, A', P', rfl, hq, hk, hst', hb⟩
  refine ⟨v, rfl, fun a' hA' => ?_⟩
  obtain ⟨h1, h2⟩ := hst.back hst' hk hb
  have hkeep : Keep C.F C.w0 w' := hS.keep.step hk fun x hx => hS.old x ((fps_perm hs).mem_iff.2 (by rw [fps_append]; exact List.mem_append_left _ hx))
  have hold : ∀ b ∈ fps (A' ++ (Al ++ Ar)), b ∈ C.F ∨ C.w0.heap.size ≤ b := fun b hb' => by
    rw [fps_append, List.mem_append] at hb'
    rcases hb' with hb' | hb'
    · rcases hb b hb' with h3 | h3
      · exact hS.old b ((fps_perm hs).mem_iff.2 (by rw [fps_append]; exact List.mem_append_left _ h3))
      · exact .inr (Nat.le_trans hS.keep.size h3)
    · exact hS.old b ((fps_perm hs).mem_iff.2 (by rw [fps_append]; exact List.mem_append_right _ hb'))
  have hperm : (A' ++ (Al ++ Ar)).Perm (A' ++ A1) := (pickA_perm hl).symm.append_left A'
  exact hK v A' P' a' w' hq (Sy.perm ⟨hA', h1, hkeep, hold⟩ hperm) fun e => Sy.perm ⟨hA', h2 e, hkeep, hold⟩ hperm

/-- A call to which nothing is lent. -/
theorem r_call (i : Nat) {j : Nat} (hij : Nat.blt i j = true) {d : Option Nat} {g : FuncId} {args : Array Value} (pk : List Nat) {Ag A1 : List Asn} {Pg : List (World → Prop)} {QQ : Value → List Asn → List (World → Prop) → Prop}
    (hS : Sy C n a w L As Ps) (h : callAt n ops L i = some (d, g, args)) (hp : pickA pk As = some (Ag, A1)) (hm : Meets P g args Ag Pg QQ)
    (hP : ∀ F, Up C As w F → AllB F w Pg)
    (hK : ∀ v A' P' a w, QQ v A' P' → Sy C n a w (upd L d v) (A' ++ A1) (P' ++ Ps) → wpList P ops Q (sg ops (i + 1) j) a w) : wpList P ops Q (sg ops i j) a w :=
  r_callL i hij pk [] hS h hp rfl hm (fun F hu _ => hP F hu) fun v A' P' a w hq _ h2 => hK v A' P' a w hq (h2 rfl)
/-- A call to which something is lent: what it tells of memory is not kept. -/
theorem r_callX (i : Nat) {j : Nat} (hij : Nat.blt i j = true) {d : Option Nat} {g : FuncId} {args : Array Value} (pk lk : List Nat) {Ag A1 Al Ar : List Asn} {Pg : List (World → Prop)} {QQ : Value → List Asn → List (World → Prop) → Prop}
    (hS : Sy C n a w L As Ps) (h : callAt n ops L i = some (d, g, args)) (hp : pickA pk As = some (Ag, A1)) (hl : pickA lk A1 = some (Al, Ar)) (hm : Meets P g args Ag Pg QQ)
    (hP : ∀ F, Up C As w F → Le Al w F → AllB F w Pg)
    (hK : ∀ v A' P' a w, QQ v A' P' → Sy C n a w (upd L d v) (A' ++ A1) Ps → wpList P ops Q (sg ops (i + 1) j) a w) : wpList P ops Q (sg ops i j) a w :=
  r_callL i hij pk lk hS h hp hl hm hP fun v A' P' a w hq h1 _ => hK v A' P' a w hq h1

/-! ### Results -/
theorem r_ret {fn : Func} {QQ : Value → List Asn → List (World → Prop) → Prop} (hS : Sy C n a w L As Ps) (rs : List ResultVar) (vs : List (List Value)) {xs : List Value} {ps : List (World → Prop)} (pk : List Nat) {A' Ar : List Asn} (P' : List (World → Prop))
    (hr : fn.results = rs.toArray) (hx : resX P L rs vs = some (xs, ps)) (hps : (∀ A ∈ As, A.holds w) → AllP w ps) (hp : pickA pk As = some (A', Ar)) (hP : ∀ F, Up C As w F → AllB F w P') (hq : QQ (resV xs) A' P') : bodyPost P fn (RetQ C QQ) .ret a w := by
  refine retG hS.has rs vs xs ps hr hx (hps hS.st.own) ?_
  have hs := pickA_perm hp
  have h1 := (hS.perm hs).sub (Qs := Ps) fun _ h => h
  have hf : ∀ x ∈ C.R ++ fps A', x ∈ C.fr As ∨ w.heap.size ≤ x := fun x hx => .inl (by
    have := (fps_perm hs).mem_iff (a := x)
    simp only [Cx.fr, fps_append, List.mem_append] at this hx ⊢
    rw [this]
    rcases hx with hx | hx
    · exact .inl hx
    · exact .inr (.inl hx))
  exact ⟨_, A', P', rfl, hq, h1.keep, ⟨h1.st.own, h1.st.lt, h1.st.nd, AllB.mem (hP _ fun h => h.weak hf), h1.st.gl⟩, h1.old⟩
/-! ### append -/
theorem row_rs {α : Type} {F : Flat α} {A : Option Addr} {c e sz : Nat} {l : List α} {k : Nat} {cs : List Value} (h : (Asn.row A c e sz k cs).holds w) (hs : sz = F.sz) (hk : k = l.length) (hc : cs = l.flatMap F.enc) : RS (G := Flat.toGoT F) w A c l := by
  subst hs hk hc
  have : OwnS (F := F) w 0 e (.slice A l.length c) l := h
  exact this.rs

theorem run_append_st {t ty e sz bytes c m c2 k : Nat} {A b : Option Addr} {cs ms : List Value} (ht : AppT P t e sz bytes) (ho : (Asn.row A c e sz k cs).holds w) (hm : CellsAt w (baseOf b) ms) (hb : b = none → m = 0) (hl : ms.length = m * sz) (h1 : ∀ u ∈ ms, u.oneCell' = true) (hroom : room (k + m) bytes = true) :
    ∃ A' c' w', (Builtin.append_ #[t, t] ty #[.slice A k c, .slice b m c2]).run P w = .ok (.slice A' (k + m) c') w' ∧ (Asn.row A' c' e sz (k + m) (cs ++ ms)).holds w' ∧ Keep (Asn.row A c e sz k cs).fp w w' ∧
      ∀ x ∈ (Asn.row A' c' e sz (k + m) (cs ++ ms)).fp, x ∈ (Asn.row A c e sz k cs).fp ∨ (w.heap.size ≤ x ∧ x < w'.heap.size) := by
  obtain ⟨inf, z, hi, hz, hsize, hby, hzs⟩ := ht.i
  have hbytes : (k + m) * bytes ≤ 140737488355328 := Nat.le_of_ble_eq_true hroom
  have h63 : k + m ≤ maxLen := by
    have := Nat.le_trans (Nat.le_mul_of_pos_right (k + m) ht.b) hbytes
    simp only [maxLen]; omega
  have h63' : k + m ≤ 9223372036854775807 := by simp only [maxLen] at h63; omega
  have ho' : w.ownsRow 0 e sz (.slice A k c) k cs := ho
  cases hbb : b with
  | none =>
    obtain rfl := hb hbb
    obtain rfl : ms = [] := List.eq_nil_of_length_eq_zero (by simpa using hl)
    refine ⟨A, c, w, ?_, by simpa using ho, Keep.refl _ _, fun x hx => .inl (by simpa using hx)⟩
    rcases ho'.2 with ⟨hv, hn⟩ | ⟨g, cap, cur, hv, _, hgh, hnc, _⟩
    · injection hv with h1 h2 h3
      subst h1 h2 h3
      simp [Builtin.append_, run_underlying ht.u, sizeOf, typeInfo, hi, Builtin.lenOf, Builtin.firstCells]
    · injection hv with h1 h2 h3
      subst h1 h3
      simp [Builtin.append_, run_underlying ht.u, sizeOf, typeInfo, hi, Builtin.lenOf, Builtin.firstCells, hnc, storeCells]
  | some B =>
    rw [hbb] at hm
    obtain ⟨v', w', hrun, hown, hgr, hnil⟩ := run_append_own (P := P) w 0 t ty e inf z sz bytes ht.u hi hz hsize hby hzs ht.p (.slice A k c) k cs ho' B m c2 ms hl hm h1 h63 hbytes (Nat.zero_le _)
    have hkeep : w.drawn ≤ w'.drawn → Keep (Asn.row A c e sz k cs).fp w w' := fun hd => Keep.grown hgr (fun x hx => by
      cases A with
      | none => simp [Value.ownBlock] at hx
      | some A => simp [Value.ownBlock] at hx; simp [Asn.fp, hx]) hd
    rcases ho'.2 with ⟨hv, hn⟩ | ⟨g, cap, cur, hv, _, hgh, hnc, hcm, hcs, htake⟩
    · injection hv with e1 e2 e3
      subst e1 hn e3
      by_cases hm0 : m = 0
      · subst hm0
        obtain rfl := hnil.2 ⟨rfl, rfl⟩
        have h00 : (Builtin.append_ #[t, t] ty #[.slice none 0 0, .slice (some B) 0 c2]).run P w = .ok (.slice none 0 0) w := by
          simp [Builtin.append_, run_underlying ht.u, sizeOf, typeInfo, hi, Builtin.lenOf, Builtin.firstCells, storeCells, loadCells, loadCellsFrom]
        have hd0 : w.drawn ≤ w'.drawn := by
          rw [hrun] at h00
          injection h00 with _ h00
          rw [h00]; exact Nat.le_refl _
        refine ⟨none, 0, w', by simpa using hrun, ?_, hkeep hd0, by simp [Asn.fp]⟩
        have hown' : w'.ownsRow 0 e sz (.slice none (0 + 0) 0) (0 + 0) (cs ++ ms) := by simpa using hown
        exact hown'
      · have hr := run_append_nil (P := P) w t ty e inf z ht.u hi hz B m c2 ms (by rw [hsize]; exact hl) hm (by omega) (by omega) (by rw [hby]; have hb := hbytes; simp only [Nat.zero_add] at hb; omega)
        rw [hrun] at hr
        injection hr with hr1 hr2
        subst hr1
        rw [Nat.zero_add] at hown ⊢
        refine ⟨_, _, w', hrun, hown, hkeep (by rw [hr2]; exact Nat.le_succ _), fun x hx => .inr ?_⟩
        simp only [Asn.fp, List.mem_singleton] at hx
        subst hx
        refine ⟨Nat.le_refl _, ?_⟩
        rw [hr2]; simp
    · injection hv with e1 e2 e3
      subst e1 e3
      by_cases hroom' : k + m ≤ c
      · have hfit : k * inf.size + ms.length ≤ cur.size := by rw [hl, hcs, hsize, ← Nat.add_mul]; exact Nat.mul_le_mul_right _ hroom'
        have hr := run_append_room (P := P) w t ty e inf ht.u hi g k c cur hgh B m c2 ms (by rw [hsize]; exact hl) hm h1 hroom' hfit
        rw [hrun] at hr
        injection hr with hr1 hr2
        subst hr1
        exact ⟨_, _, w', hrun, hown, hkeep (by rw [hr2]; exact Nat.le_refl _), fun x hx => .inl hx⟩
      · have holds : ∀ j u, cs[j]? = some u → w.cell? ((⟨g, 0, none⟩ : Addr).add j) = some u := ho'.cells (g := g) rfl
        have hr := run_append_grow (P := P) w t ty e inf z ht.u hi hz ⟨g, 0, none⟩ k c cs (by rw [hsize]; exact ho'.1) holds B m c2 ms (by rw [hsize]; exact hl) hm (by omega) (by omega) (by rw [hby]; exact growslice_fits (by omega) hbytes)
        rw [hrun] at hr
        injection hr with hr1 hr2
        subst hr1
        refine ⟨_, _, w', hrun, hown, hkeep (by rw [hr2]; exact Nat.le_succ _), fun x hx => .inr ?_⟩
        simp only [Asn.fp, List.mem_singleton] at hx
        subst hx
        refine ⟨Nat.le_refl _, ?_⟩
        rw [hr2]; simp

theorem fp_row_nodup {A : Option Addr} {c e sz k : Nat} {cs : List Value} : (Asn.row A c e sz k cs).fp.Nodup := by cases A <;> simp [Asn.fp]
/-! ### A builtin whose run is known -/
theorem r_blt (i : Nat) {j : Nat} (hij : Nat.blt i j = true) {d : Option Nat} {b : Builtin} {ts : Array TypeId} {ty : TypeId} {vs : Array Value} (hS : Sy C n a w L As Ps) (h : bltAt n ops L i = some (d, b, ts, ty, vs))
    {v : Value} {w' : World} (hr : ∀ cs, (builtin b ts ty cs vs).run P w = .ok (.value v) w')
    (hK : ∀ a', Has a' n (upd L d v) → wpList P ops Q (sg ops (i + 1) j) a' w') : wpList P ops Q (sg ops i j) a w := wl_blt i hij hS.has h hr hK
end

/-! ### A region that draws its order -/
/-- What an operation of the region comes to: a value, or something that is told of its value (and of what it then owns). -/
inductive DS where
  | val (v : Value)
  | q (Q : Value → List Asn → List (World → Prop) → Prop)
def DS.sp (F : List Nat) (N0 : Nat) : DS → SpecV
  | .val v => SpecV.val v
  | .q Q => ⟨fun w v => ∃ A P, Q v A P ∧ St F w A P ∧ ∀ b ∈ fps A, N0 ≤ b, fun ⟨A, P, h1, h2, h3⟩ e => ⟨A, P, h1, h2.ext e, h3⟩, false, fun h => by cases h⟩
section
variable {P : Program} {ops : Array Oper} {Q : Exit → Act → World → Prop} {C : Cx} {n : Nat} {a : Act} {w : World} {L : Env} {As : List Asn} {Ps : List (World → Prop)}

end
end Go.Bur
