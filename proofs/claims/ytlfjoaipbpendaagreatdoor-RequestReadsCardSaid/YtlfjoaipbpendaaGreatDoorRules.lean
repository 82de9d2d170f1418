/- The rules of a walk over the state: calls, appends, results, regions that draw their order. -/
import Derived.Test.YtlfjoaipbpendaaGreatDoorRun
namespace Go.Bur
open Go.RowKit
set_option linter.unusedVariables false
set_option linter.unusedSimpArgs false

def takeK : Nat → List Asn → Option (Asn × List Asn)
  | _, [] => none
  | 0, A :: r => some (A, r)
  | k + 1, B :: r => match takeK k r with
    | some (A, r') => some (A, B :: r')
    | none => none
def pickA : List Nat → List Asn → Option (List Asn × List Asn)
  | [], As => some ([], As)
  | k :: ks, As => match takeK k As with
    | some (A, r) => match pickA ks r with
      | some (p, r') => some (A :: p, r')
      | none => none
    | none => none
theorem takeK_perm : ∀ {k : Nat} {As : List Asn} {A : Asn} {r : List Asn}, takeK k As = some (A, r) → As.Perm (A :: r)
  | k, [], A, r, h => by cases k <;> simp [takeK] at h
  | 0, B :: s, A, r, h => by
    simp only [takeK, Option.some.injEq, Prod.mk.injEq] at h
    obtain ⟨rfl, rfl⟩ := h
    exact List.Perm.refl _
  | k + 1, B :: s, A, r, h => by
    simp only [takeK] at h
    split at h
    · rename_i A1 r1 hk
      simp only [Option.some.injEq, Prod.mk.injEq] at h
      obtain ⟨rfl, rfl⟩ := h
      exact ((takeK_perm hk).cons B).trans (List.Perm.swap _ _ _)
    · cases h
theorem pickA_perm : ∀ {ks : List Nat} {As p r : List Asn}, pickA ks As = some (p, r) → As.Perm (p ++ r)
  | [], As, p, r, h => by
    simp only [pickA, Option.some.injEq, Prod.mk.injEq] at h
    obtain ⟨rfl, rfl⟩ := h
    exact List.Perm.refl _
  | k :: ks, As, p, r, h => by
    simp only [pickA] at h
    split at h
    · rename_i A r1 hk
      split at h
      · rename_i p1 r2 hp
        simp only [Option.some.injEq, Prod.mk.injEq] at h
        obtain ⟨rfl, rfl⟩ := h
        exact (takeK_perm hk).trans ((pickA_perm hp).cons A)
      · cases h
    · cases h
def pickP (Ps : List (World → Prop)) : List Nat → Option (List (World → Prop))
  | [] => some []
  | k :: ks => match Ps[k]?, pickP Ps ks with
    | some p, some r => some (p :: r)
    | _, _ => none
theorem pickP_mem {Ps : List (World → Prop)} : ∀ {ks : List Nat} {Qs : List (World → Prop)}, pickP Ps ks = some Qs → ∀ q ∈ Qs, q ∈ Ps
  | [], Qs, h, q, hq => by
    simp only [pickP, Option.some.injEq] at h
    subst h
    cases hq
  | k :: ks, Qs, h, q, hq => by
    simp only [pickP] at h
    split at h
    · rename_i p r hk hr
      obtain rfl := someI' h
      rcases List.mem_cons.1 hq with rfl | hq
      · exact List.mem_of_getElem? hk
      · exact pickP_mem hr q hq
    · cases h

section
variable {P : Program} {ops : Array Oper} {Q : Exit → Act → World → Prop} {C : Cx} {n : Nat} {a : Act} {w : World} {L : Env} {As : List Asn} {Ps : List (World → Prop)}

/-- The state, told otherwise: slots, own things, facts picked out. -/
theorem Sy.to {L' : Env} {Bs Br : List Asn} {Qs : List (World → Prop)} (h : Sy C n a w L As Ps) (ks : List Nat) (pk : List Nat) (qs : List Nat) (hL : (match ks.all (hasK L) with | true => some (ks.map fun k => (k, lk L k)) | false => none) = some L')
    (hp : pickA pk As = some (Bs, Br)) (hq : pickP Ps qs = some Qs) : Sy C n a w L' Bs Qs := by
  have h1 := (h.perm (pickA_perm hp)).sub (pickP_mem hq)
  split at hL
  · rename_i hk
    obtain rfl := someI' hL
    exact ⟨h1.has.keep ks hk, h1.st, h1.keep, h1.old⟩
  · cases hL
theorem Sy.env {L' : Env} (h : Sy C n a w L As Ps) (e : L = L') : Sy C n a w L' As Ps := e ▸ h
theorem Sy.p (h : Sy C n a w L As Ps) (k : Nat) {p : World → Prop} (hk : Ps[k]? = some p) : Bx (C.fr As) w p := h.st.per p (List.mem_of_getElem? hk)
theorem Sy.addP {p : World → Prop} (h : Sy C n a w L As Ps) (hp : Bx (C.fr As) w p) : Sy C n a w L As (p :: Ps) :=
  ⟨h.has, ⟨h.st.own, h.st.lt, h.st.nd, fun q hq => by
    rcases List.mem_cons.1 hq with rfl | hq
    · exact hp
    · exact h.st.per q hq, h.st.gl⟩, h.keep, h.old⟩
/-- A thing of one's own, from now on for all to read. -/
theorem Sy.freeze {A : Asn} {As' : List Asn} (h : Sy C n a w L As Ps) (k : Nat) (hk : takeK k As = some (A, As')) (p : World → Prop) (hp : ∀ w, A.holds w → p w) : Sy C n a w L As' (p :: Ps) := by
  have h1 := h.perm ((takeK_perm hk).trans (List.perm_append_comm (l₁ := [A])))
  have h2 := h1.sub (Qs := Ps) fun _ h => h
  refine h2.addP fun w' hw' => hp w' ?_
  have hnd := h1.st.nd
  rw [fps_append, List.nodup_append, List.nodup_append] at hnd
  obtain ⟨_, ⟨_, _, hd⟩, hR⟩ := hnd
  refine Asn.same (h1.st.own A (by simp)) fun b hb => hw'.block b (h1.st.lt b ?_) fun hm => ?_
  · rw [fps_append]; simp only [List.mem_append]; exact .inr (.inr (by simpa [fps] using hb))
  · rcases List.mem_append.1 hm with hm | hm
    · exact hR b hm b (List.mem_append_right _ (by simpa [fps] using hb)) rfl
    · exact hd b hm b (by simpa [fps] using hb) rfl
/-! ### Calls -/
/-! ### Results -/
/-! ### append -/
theorem run_append_st {t ty e sz bytes c m c2 k : Nat} {A b : Option Addr} {cs ms : List Value} (ht : AppT P t e sz bytes) (ho : (Asn.row A c e sz k cs).holds w) (hm : CellsAt w (baseOf b) ms) (hb : b = none → m = 0) (hl : ms.length = m * sz) (h1 : ∀ u ∈ ms, u.oneCell' = true) (hroom : room (k + m) bytes = true) :
    ∃ A' c' w', (Builtin.append_ #[t, t] ty #[.slice A k c, .slice b m c2]).run P w = .ok (.slice A' (k + m) c') w' ∧ (Asn.row A' c' e sz (k + m) (cs ++ ms)).holds w' ∧ Keep (Asn.row A c e sz k cs).fp w w' ∧
      ∀ x ∈ (Asn.row A' c' e sz (k + m) (cs ++ ms)).fp, x ∈ (Asn.row A c e sz k cs).fp ∨ (w.heap.size ≤ x ∧ x < w'.heap.size) := by
  obtain ⟨inf, z, hi, hz, hsize, hby, hzs⟩ := ht.i
  have hbytes : (k + m) * bytes ≤ 140737488355328 := Nat.le_of_ble_eq_true hroom
  have h63 : k + m ≤ maxLen := by
    have := Nat.le_trans (Nat.le_mul_of_pos_right (k + m) ht.b) hbytes
    simp only [maxLen]; omega
  have h63' : k + m ≤ 9223372036854775807 := by simp only [maxLen] at h63; omega
  have ho' : w.ownsRow 0 e sz (.slice A k c) k cs := ho
  cases hbb : b with
  | none =>
    obtain rfl := hb hbb
    obtain rfl : ms = [] := List.eq_nil_of_length_eq_zero (by simpa using hl)
    refine ⟨A, c, w, ?_, by simpa using ho, Keep.refl _ _, fun x hx => .inl (by simpa using hx)⟩
    rcases ho'.2 with ⟨hv, hn⟩ | ⟨g, cap, cur, hv, _, hgh, hnc, _⟩
    · injection hv with h1 h2 h3
      subst h1 h2 h3
      simp [Builtin.append_, run_underlying ht.u, sizeOf, typeInfo, hi, Builtin.lenOf, Builtin.firstCells]
    · injection hv with h1 h2 h3
      subst h1 h3
      simp [Builtin.append_, run_underlying ht.u, sizeOf, typeInfo, hi, Builtin.lenOf, Builtin.firstCells, hnc, storeCells]
  | some B =>
    rw [hbb] at hm
    obtain ⟨v', w', hrun, hown, hgr, hnil⟩ := run_append_own (P := P) w 0 t ty e inf z sz bytes ht.u hi hz hsize hby hzs ht.p (.slice A k c) k cs ho' B m c2 ms hl hm h1 h63 hbytes (Nat.zero_le _)
    have hkeep : w.drawn ≤ w'.drawn → Keep (Asn.row A c e sz k cs).fp w w' := fun hd => Keep.grown hgr (fun x hx => by
      cases A with
      | none => simp [Value.ownBlock] at hx
      | some A => simp [Value.ownBlock] at hx; simp [Asn.fp, hx]) hd
    rcases ho'.2 with ⟨hv, hn⟩ | ⟨g, cap, cur, hv, _, hgh, hnc, hcm, hcs, htake⟩
    · injection hv with e1 e2 e3
      subst e1 hn e3
      by_cases hm0 : m = 0
      · subst hm0
        obtain rfl := hnil.2 ⟨rfl, rfl⟩
        have h00 : (Builtin.append_ #[t, t] ty #[.slice none 0 0, .slice (some B) 0 c2]).run P w = .ok (.slice none 0 0) w := by
          simp [Builtin.append_, run_underlying ht.u, sizeOf, typeInfo, hi, Builtin.lenOf, Builtin.firstCells, storeCells, loadCells, loadCellsFrom]
        have hd0 : w.drawn ≤ w'.drawn := by
          rw [hrun] at h00
          injection h00 with _ h00
          rw [h00]; exact Nat.le_refl _
        refine ⟨none, 0, w', by simpa using hrun, ?_, hkeep hd0, by simp [Asn.fp]⟩
        have hown' : w'.ownsRow 0 e sz (.slice none (0 + 0) 0) (0 + 0) (cs ++ ms) := by simpa using hown
        exact hown'
      · have hr := run_append_nil (P := P) w t ty e inf z ht.u hi hz B m c2 ms (by rw [hsize]; exact hl) hm (by omega) (by omega) (by rw [hby]; have hb := hbytes; simp only [Nat.zero_add] at hb; omega)
        rw [hrun] at hr
        injection hr with hr1 hr2
        subst hr1
        rw [Nat.zero_add] at hown ⊢
        refine ⟨_, _, w', hrun, hown, hkeep (by rw [hr2]; exact Nat.le_succ _), fun x hx => .inr ?_⟩
        simp only [Asn.fp, List.mem_singleton] at hx
        subst hx
        refine ⟨Nat.le_refl _, ?_⟩
        rw [hr2]; simp
    · injection hv with e1 e2 e3
      subst e1 e3
      by_cases hroom' : k + m ≤ c
      · have hfit : k * inf.size + ms.length ≤ cur.size := by rw [hl, hcs, hsize, ← Nat.add_mul]; exact Nat.mul_le_mul_right _ hroom'
        have hr := run_append_room (P := P) w t ty e inf ht.u hi g k c cur hgh B m c2 ms (by rw [hsize]; exact hl) hm h1 hroom' hfit
        rw [hrun] at hr
        injection hr with hr1 hr2
        subst hr1
        exact ⟨_, _, w', hrun, hown, hkeep (by rw [hr2]; exact Nat.le_refl _), fun x hx => .inl hx⟩
      · have holds : ∀ j u, cs[j]? = some u → w.cell? ((⟨g, 0, none⟩ : Addr).add j) = some u := ho'.cells (g := g) rfl
        have hr := run_append_grow (P := P) w t ty e inf z ht.u hi hz ⟨g, 0, none⟩ k c cs (by rw [hsize]; exact ho'.1) holds B m c2 ms (by rw [hsize]; exact hl) hm (by omega) (by omega) (by rw [hby]; exact growslice_fits (by omega) hbytes)
        rw [hrun] at hr
        injection hr with hr1 hr2
        subst hr1
        refine ⟨_, _, w', hrun, hown, hkeep (by rw [hr2]; exact Nat.le_succ _), fun x hx => .inr ?_⟩
        simp only [Asn.fp, List.mem_singleton] at hx
        subst hx
        refine ⟨Nat.le_refl _, ?_⟩
        rw [hr2]; simp

theorem fp_row_nodup {A : Option Addr} {c e sz k : Nat} {cs : List Value} : (Asn.row A c e sz k cs).fp.Nodup := by cases A <;> simp [Asn.fp]
/-! ### A builtin whose run is known -/
end

/-! ### A region that draws its order -/
/-- What an operation of the region comes to: a value, or something that is told of its value (and of what it then owns). -/
inductive DS where
  | val (v : Value)
  | q (Q : Value → List Asn → List (World → Prop) → Prop)
def DS.sp (F : List Nat) (N0 : Nat) : DS → SpecV
  | .val v => SpecV.val v
  | .q Q => ⟨fun w v => ∃ A P, Q v A P ∧ St F w A P ∧ ∀ b ∈ fps A, N0 ≤ b, fun ⟨A, P, h1, h2, h3⟩ e => ⟨A, P, h1, h2.ext e, h3⟩, false, fun h => by cases h⟩
section
variable {P : Program} {ops : Array Oper} {Q : Exit → Act → World → Prop} {C : Cx} {n : Nat} {a : Act} {w : World} {L : Env} {As : List Asn} {Ps : List (World → Prop)}

end
end Go.Bur
