/- The rules of a walk over the state: straight pieces run by the kernel, calls, appends, ends. -/
import Derived.Test.YtlfjoaipbpendaaGreatDoorSt
namespace Go.Bur
open Go.RowKit
set_option linter.unusedVariables false
set_option linter.unusedSimpArgs false

theorem Sy.put {C : Cx} {n : Nat} {a : Act} {w : World} {L : Env} {As : List Asn} {Ps : List (World → Prop)} (h : Sy C n a w L As Ps) {d : Nat} (hd : d < n) (v : Value) : Sy C n (a.put (some d) v) w ((d, v) :: L) As Ps :=
  ⟨h.has.put hd v, h.st, h.keep, h.old⟩
theorem Sy.ext {C : Cx} {n : Nat} {a : Act} {w w' : World} {L : Env} {As : List Asn} {Ps : List (World → Prop)} (h : Sy C n a w L As Ps) (e : Ext w w') : Sy C n a w' L As Ps :=
  ⟨h.has, h.st.ext e, h.keep.step (Keep.ofExt (F := []) e) (by simp), h.old⟩
theorem Sy.new {C : Cx} {n : Nat} {a : Act} {w w' : World} {L : Env} {As : List Asn} {Ps : List (World → Prop)} (h : Sy C n a w L As Ps) (e : Ext w w') {A : Asn} (hA : A.holds w') (hf : ∀ b ∈ A.fp, w.heap.size ≤ b ∧ b < w'.heap.size) (hn : A.fp.Nodup) : Sy C n a w' L (A :: As) Ps :=
  ⟨h.has, h.st.new e hA hf hn, h.keep.step (Keep.ofExt (F := []) e) (by simp), fun b hb => by
    rw [fps_cons, List.mem_append] at hb
    rcases hb with hb | hb
    · exact .inr (Nat.le_trans h.keep.size (hf b hb).1)
    · exact h.old b hb⟩
theorem Sy.set0 {C : Cx} {n : Nat} {a : Act} {w w' : World} {L : Env} {A B : Asn} {As : List Asn} {Ps : List (World → Prop)} (h : Sy C n a w L (A :: As) Ps) (hk : Keep A.fp w w') (hB : B.holds w') (hf : ∀ b ∈ B.fp, b ∈ A.fp ∨ (w.heap.size ≤ b ∧ b < w'.heap.size)) (hn : B.fp.Nodup) : Sy C n a w' L (B :: As) Ps :=
  ⟨h.has, h.st.set hk hB hf hn, h.keep.step hk fun x hx => h.old x (by rw [fps_cons]; simp [hx]), fun b hb => by
    rw [fps_cons, List.mem_append] at hb
    rcases hb with hb | hb
    · rcases hf b hb with h1 | h1
      · exact h.old b (by rw [fps_cons]; simp [h1])
      · exact .inr (Nat.le_trans h.keep.size h1.1)
    · exact h.old b (by rw [fps_cons]; simp [hb])⟩
theorem Sy.perm {C : Cx} {n : Nat} {a : Act} {w : World} {L : Env} {As Bs : List Asn} {Ps : List (World → Prop)} (h : Sy C n a w L As Ps) (hp : As.Perm Bs) : Sy C n a w L Bs Ps :=
  ⟨h.has, h.st.perm hp, h.keep, fun b hb => h.old b ((fps_perm hp).mem_iff.2 hb)⟩
theorem Sy.sub {C : Cx} {n : Nat} {a : Act} {w : World} {L : Env} {As Bs : List Asn} {Ps Qs : List (World → Prop)} (h : Sy C n a w L (As ++ Bs) Ps) (hq : ∀ q ∈ Qs, q ∈ Ps) : Sy C n a w L As Qs :=
  ⟨h.has, h.st.sub hq, h.keep, fun b hb => h.old b (by rw [fps_append]; exact List.mem_append_left _ hb)⟩

theorem set_perm {A : Asn} : ∀ {As : List Asn} {k : Nat}, As[k]? = some A → ∀ B, (As.set k B).Perm (B :: As.eraseIdx k) ∧ As.Perm (A :: As.eraseIdx k)
  | [], k, h, B => by simp at h
  | x :: r, 0, h, B => by
    simp only [List.getElem?_cons_zero, Option.some.injEq] at h
    subst h
    exact ⟨List.Perm.refl _, List.Perm.refl _⟩
  | x :: r, k + 1, h, B => by
    simp only [List.getElem?_cons_succ] at h
    obtain ⟨h1, h2⟩ := set_perm h B
    simp only [List.set_cons_succ, List.eraseIdx_cons_succ]
    exact ⟨(h1.cons x).trans (List.Perm.swap _ _ _), (h2.cons x).trans (List.Perm.swap _ _ _)⟩
theorem Sy.set {C : Cx} {n : Nat} {a : Act} {w w' : World} {L : Env} {A B : Asn} {As : List Asn} {Ps : List (World → Prop)} {k : Nat} (h : Sy C n a w L As Ps) (hA : As[k]? = some A) (hk : Keep A.fp w w') (hB : B.holds w') (hf : ∀ b ∈ B.fp, b ∈ A.fp ∨ (w.heap.size ≤ b ∧ b < w'.heap.size)) (hn : B.fp.Nodup) : Sy C n a w' L (As.set k B) Ps := by
  obtain ⟨h1, h2⟩ := set_perm hA B
  exact ((h.perm h2).set0 hk hB hf hn).perm h1.symm

/-! ### A straight piece, run by the kernel -/
inductive Hint where
  | own (k off : Nat)
  | row (k : Nat) (cs : List Value)
  | ext (cs : List Value)
  | put (k : Nat) (B : Asn)
  | val (v : Value)
  | as (d : Nat) (v : Value)
def AllB (F : List Nat) (w : World) : List (World → Prop) → Prop
  | [] => True
  | p :: r => Bx F w p ∧ AllB F w r
theorem Bx.c {F : List Nat} {w : World} {p : Prop} (h : p) : Bx F w (fun _ => p) := fun _ _ => h
def LoadOk (A : Asn) (p : Addr) (cs : List Value) : Prop := ∀ w, A.holds w → CellsAt w p cs
def loadV (P : Program) (t : TypeId) (cs : List Value) : Option Value :=
  match aggOf P t, P.info? t with
  | some true, some i => match Nat.beq cs.length i.size with
    | true => some (.agg cs.toArray)
    | false => none
  | some false, some _ => match cs with
    | [c] => some c
    | _ => none
  | _, _ => none

def hv : List Hint → List (List Value)
  | .val v :: _ => [[v]]
  | _ => []
section
variable {P : Program} {ops : Array Oper} {Q : Exit → Act → World → Prop} {C : Cx} {n : Nat} {Ps : List (World → Prop)}

theorem loadV_run {t : TypeId} {A : Addr} {cs : List Value} {v : Value} {w : World} (h : loadV P t cs = some v) (hc : CellsAt w A cs) : (Instr.loadAt t (.pointer (some A))).run P w = .ok v w := by
  unfold loadV at h
  split at h
  · rename_i i ha hi
    split at h
    · rename_i hb
      obtain rfl := someI' h
      exact run_load_agg hi ha (Nat.eq_of_beq_eq_true hb) hc
    · cases h
  · rename_i i ha hi
    split at h
    · obtain rfl := someI' h
      exact run_load_one ha hc
    · cases h
  · cases h

/-- The blocks whose cells may turn while this state lasts. -/
abbrev Cx.fr (C : Cx) (As : List Asn) : List Nat := C.R ++ fps As

end
end Go.Bur
