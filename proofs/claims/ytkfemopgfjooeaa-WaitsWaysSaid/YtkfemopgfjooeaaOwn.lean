/- Rows of one's own that are cut, shifted, filled in place: what the library's slices functions do. -/
import Derived.Test.YtkfemopgfjooeaaCtl
namespace Go.Bur
open Go.RowKit
set_option linter.unusedVariables false
set_option linter.unusedSimpArgs false

section
variable {P : Program} {ops : Array Oper} {Q : Exit → Act → World → Prop} {C : Cx} {n : Nat} {a : Act} {w : World} {L : Env} {As : List Asn} {Ps : List (World → Prop)}

/-- A builtin that turns one of one's own things. -/
theorem r_bltS (i : Nat) {j : Nat} (hij : Nat.blt i j = true) {d : Option Nat} {b : Builtin} {ts : Array TypeId} {ty : TypeId} {vs : Array Value} (k : Nat) {A : Asn} (B : Asn) (hS : Sy C n a w L As Ps) (h : bltAt n ops L i = some (d, b, ts, ty, vs)) (hk : As[k]? = some A)
    {v : Value} (hr : A.holds w → ∃ w', (∀ cs, (builtin b ts ty cs vs).run P w = .ok (.value v) w') ∧ B.holds w' ∧ Keep A.fp w w') (hf : B.fp = A.fp) (hn : A.fp.Nodup)
    (hK : ∀ a w, Sy C n a w (upd L d v) (As.set k B) Ps → wpList P ops Q (sg ops (i + 1) j) a w) : wpList P ops Q (sg ops i j) a w := by
  obtain ⟨w', hrun, hB, hkeep⟩ := hr (hS.st.own _ (List.mem_of_getElem? hk))
  have h1 := hS.set hk hkeep hB (fun b hb => .inl (hf ▸ hb)) (hf ▸ hn)
  refine r_blt i hij hS h hrun fun a' hA' => ?_
  exact hK a' w' ⟨hA', h1.st, h1.keep, h1.old⟩
theorem row_full {g : Nat} {c e sz m : Nat} {cs : List Value} (h : (Asn.row (some ⟨g, 0, none⟩) c e sz m cs).holds w) : ∃ ds, ds.take (m * sz) = cs ∧ ds.length = c * sz ∧ m ≤ c ∧ (Asn.row (some ⟨g, 0, none⟩) c e sz c ds).holds w := by
  have h' : w.ownsRow 0 e sz (.slice (some ⟨g, 0, none⟩) m c) m cs := h
  rcases h'.2 with ⟨hv, _⟩ | ⟨g', cap, cur, hv, hb, hg, hnc, hcm, hcs, htake⟩
  · cases hv
  · injection hv with e1 e2 e3
    injection e1 with e1
    injection e1 with e1
    subst e1 e3
    refine ⟨cur.toList, htake, by simpa using hcs, hnc, ⟨by simpa using hcs, .inr ⟨g, c, cur, rfl, hb, hg, Nat.le_refl _, hcm, hcs, ?_⟩⟩⟩
    rw [← hcs, ← Array.length_toList, List.take_length]
theorem row_cut {g : Nat} {c e sz : Nat} {ds : List Value} (h : (Asn.row (some ⟨g, 0, none⟩) c e sz c ds).holds w) (m : Nat) (hm : m ≤ c) : (Asn.row (some ⟨g, 0, none⟩) c e sz m (ds.take (m * sz))).holds w := by
  have h' : w.ownsRow 0 e sz (.slice (some ⟨g, 0, none⟩) c c) c ds := h
  rcases h'.2 with ⟨hv, _⟩ | ⟨g', cap, cur, hv, hb, hg, hnc, hcm, hcs, htake⟩
  · cases hv
  · injection hv with e1 e2 e3
    injection e1 with e1
    injection e1 with e1
    subst e1 e3
    have hmc := Nat.mul_le_mul_right sz hm
    have hd : ds = cur.toList := by rw [← htake, ← hcs, ← Array.length_toList, List.take_length]
    subst hd
    refine ⟨by rw [List.length_take, Array.length_toList, hcs]; omega, .inr ⟨g, c, cur, rfl, hb, hg, hm, hcm, hcs, rfl⟩⟩
theorem Sy.same {A B : Asn} (hS : Sy C n a w L As Ps) (k : Nat) (hk : As[k]? = some A) (hB : A.holds w → B.holds w) (hf : B.fp = A.fp) (hn : A.fp.Nodup) : Sy C n a w L (As.set k B) Ps :=
  hS.set hk (Keep.refl _ _) (hB (hS.st.own _ (List.mem_of_getElem? hk))) (fun b hb => .inl (hf ▸ hb)) (hf ▸ hn)
theorem row_block {A : Option Addr} {c e sz m : Nat} {cs : List Value} (h : (Asn.row A c e sz m cs).holds w) (hm : m ≠ 0) : ∃ g, A = some ⟨g, 0, none⟩ := by
  have h' : w.ownsRow 0 e sz (.slice A m c) m cs := h
  rcases h'.2 with ⟨hv, h0⟩ | ⟨g', cap, cur, hv, _⟩
  · exact absurd h0 hm
  · injection hv with e1
    exact ⟨g', e1⟩
theorem row_block' {A : Option Addr} {c e sz m : Nat} {cs : List Value} (h : (Asn.row A c e sz m cs).holds w) : A = none ∧ m = 0 ∧ c = 0 ∨ ∃ g, A = some ⟨g, 0, none⟩ := by
  have h' : w.ownsRow 0 e sz (.slice A m c) m cs := h
  rcases h'.2 with ⟨hv, h0⟩ | ⟨g', cap, cur, hv, _⟩
  · injection hv with e1 e2 e3
    exact .inl ⟨e1, h0, e3⟩
  · injection hv with e1
    exact .inr ⟨g', e1⟩
theorem row_len {A : Option Addr} {c e sz m : Nat} {cs : List Value} (h : (Asn.row A c e sz m cs).holds w) : cs.length = m * sz ∧ m ≤ c ∧ c ≤ maxLen := by
  have h' : w.ownsRow 0 e sz (.slice A m c) m cs := h
  refine ⟨h'.1, ?_⟩
  rcases h'.2 with ⟨hv, h0⟩ | ⟨g', cap, cur, hv, _, _, h1, h2, _⟩
  · injection hv with e1 e2 e3
    exact ⟨by omega, by rw [e3]; simp⟩
  · injection hv with e1 e2 e3
    exact ⟨by omega, by omega⟩

theorem row_of_set {g c e sz : Nat} {cur : Array Value} {ds : List Value} (hg : w.heap[g]? = some (.cells cur e (0, 0))) (hcm : c ≤ maxLen) (hl : ds.length = c * sz) : (Asn.row (some ⟨g, 0, none⟩) c e sz c ds).holds (w.setRow g ds.toArray) := by
  refine ⟨hl, .inr ⟨g, c, ds.toArray, rfl, Nat.zero_le _, setRow_heap w g _ _ e (0, 0) hg, Nat.le_refl _, hcm, by simpa using hl, ?_⟩⟩
  rw [List.toList_toArray, ← hl, List.take_length]
theorem run_clear_row {g : Nat} {c e sz o k : Nat} {t ty : TypeId} {inf : TypeInfo} {z : Value} {ds : List Value} {kc : Nat} (hu : P.underlying t = some (.slice e)) (hi : P.info? e = some inf) (hz : inf.zero = some z) (hzs : z.cells.size = sz) (hz1 : ∀ v ∈ z.cells.toList, v.oneCell' = true)
    (h : (Asn.row (some ⟨g, 0, none⟩) c e sz c ds).holds w) (hfit : o + k * sz ≤ c * sz) :
    ∃ w', (∀ cs, (builtin .clear #[t] ty cs #[.slice (some ⟨g, o, none⟩) k kc]).run P w = .ok (.value (.tuple #[])) w') ∧ (Asn.row (some ⟨g, 0, none⟩) c e sz c (spl ds o (Builtin.zeroCells z.cells k).toList)).holds w' ∧ Keep [g] w w' := by
  have h' : w.ownsRow 0 e sz (.slice (some ⟨g, 0, none⟩) c c) c ds := h
  rcases h'.2 with ⟨hv, _⟩ | ⟨g', cap, cur, hv, hb, hg, hnc, hcm, hcs, htake⟩
  · cases hv
  · injection hv with e1 e2 e3
    injection e1 with e1
    injection e1 with e1
    subst e1 e3
    have hd : ds = cur.toList := by rw [← htake, ← hcs, ← Array.length_toList, List.take_length]
    subst hd
    have hzl : (Builtin.zeroCells z.cells k).toList.length = k * sz := by simp [Builtin.zeroCells, hzs]
    have hlt : cur.toList.length = c * sz := by rw [Array.length_toList, hcs]
    have hsp : (spl cur.toList o (Builtin.zeroCells z.cells k).toList).length = c * sz := by rw [spl_length (by rw [hlt, hzl]; exact hfit), hlt]
    cases k with
    | zero =>
      have hzero : (Builtin.zeroCells z.cells 0).toList = [] := List.eq_nil_of_length_eq_zero (by rw [hzl]; simp)
      refine ⟨w, fun cs => ?_, ?_, Keep.refl _ _⟩
      · simp [builtin, Builtin.clear_, run_underlying hu]
      · rw [hzero]; simpa [spl] using h
    | succ k =>
      have hz1' : ∀ v ∈ (Builtin.zeroCells z.cells (k + 1)).toList, v.oneCell' = true := by
        intro v hv
        simp only [Builtin.zeroCells, Array.toList_map, List.mem_map, Array.toList_range, List.mem_range] at hv
        obtain ⟨i, hi, rfl⟩ := hv
        have hpos : 0 < z.cells.size := by
          rcases Nat.eq_zero_or_pos z.cells.size with h | h
          · rw [h] at hi; omega
          · exact h
        have hlt : i % z.cells.size < z.cells.size := Nat.mod_lt _ hpos
        refine hz1 _ ?_
        rw [getElem!_pos z.cells _ hlt]
        simp
      have hst := run_storeCells_at (P := P) g o e (Builtin.zeroCells z.cells (k + 1)).toList 0 cur w hg (by rw [hzl]; omega) hz1'
      simp only [Nat.add_zero] at hst
      refine ⟨w.setRow g (spl cur.toList o (Builtin.zeroCells z.cells (k + 1)).toList).toArray, fun cs => ?_, row_of_set hg hcm hsp, Keep.grown setRow_grown (fun c e => by injection e with e; simp [e])⟩
      have hzr : (zeroValue e).run P w = .ok z w := by simp [zeroValue, typeInfo, hi, hz]
      have hst2 : (storeCells ⟨g, o, none⟩ (Builtin.zeroCells z.cells (k + 1)).toList).run P w = .ok () (w.setRow g (spl cur.toList o (Builtin.zeroCells z.cells (k + 1)).toList).toArray) := hst
      generalize w.setRow g (spl cur.toList o (Builtin.zeroCells z.cells (k + 1)).toList).toArray = W at hst2 ⊢
      simp [builtin, Builtin.clear_, run_underlying hu, hzr, hst2]

/-! What the cells come to. -/
end
end Go.Bur
