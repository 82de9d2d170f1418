import Derived.Test.YtndehfninoimgaaGreatHn
import Derived.Sort.OwnSortedInts
import Derived.Lib.SlicesCompact
namespace Go.Bur
open Go.RowKit
set_option linter.unusedVariables false
set_option linter.unusedSimpArgs false
def sortZ (l : List Int) : List Int := l.mergeSort fun x y => decide (x ≤ y)
theorem sortZ_len (l : List Int) : (sortZ l).length = l.length := by unfold sortZ; exact List.length_mergeSort _
@[reducible] def srtCt (S : Tab) (g e : Nat) : Ct S := ⟨g, [.one (.own 0)], [.row e (.int .i64)], [], [(some 0, .row e (.int .i64))], List Int, fun y => (y, ()), fun y => y.1, fun _ => rfl, fun n x => match Nat.ble (@List.length Int x.1) 4611686018427387903 with | true => some (sortZ x.1) | false => none⟩
def SrtRaw (P : Program) (g : Nat) : Prop := (∀ (blk cap : Nat) (zs : List Int) (w : World), Go.Sort.Holds (Value.int .i64) w blk 0 zs.toArray → blk < w.heap.size → zs.length < 4611686018427387904 →
    Calls P g #[.slice (some ⟨blk, 0, none⟩) zs.length cap] w fun e w' => e = .returned (.tuple #[]) ∧ ∃ n os, w' = Go.Sort.grow (Go.Sort.putRow (Value.int .i64) (Go.Sort.ahead w n) blk 0 (sortZ zs).toArray) os) ∧
  ∀ (p : Option Addr) (cap : Nat) (w : World), Calls P g #[.slice p 0 cap] w fun e w' => e = .returned (.tuple #[]) ∧ w' = w
theorem flat_reps_enc {α : Type} {F : Flat α} {w : World} : ∀ {cs : List Value} {l : List α}, Reps (Flat.toGoT F) w cs l → cs = l.flatMap F.enc
  | _, _, .nil => rfl
  | _, _, .cons h k => by rw [List.flatMap_cons, ← flat_reps_enc k]; exact congrArg (· ++ _) h
theorem enc_flat_reps {α : Type} {F : Flat α} {w : World} : ∀ (l : List α), Reps (Flat.toGoT F) w (l.flatMap F.enc) l
  | [] => .nil
  | x :: l => by rw [List.flatMap_cons]; exact .cons rfl (enc_flat_reps l)
theorem ints_flat (l : List Int) : l.flatMap (fun x => [Value.int .i64 x]) = l.map (Value.int .i64) := by
  induction l with
  | nil => rfl
  | cons x l ih => rw [List.flatMap_cons, ih]; rfl
theorem fp_row {A : Option Addr} {c e sz n : Nat} {cs ds : List Value} : (Asn.row A c e sz n cs).fp = (Asn.row A c e sz n ds).fp := by cases A <;> rfl
theorem srt_ok {P : Program} {S : Tab} {g e : Nat} (hcall : ∀ args w, (callFunc g args).run P w = .ok (.enter g args) w) (hraw : SrtRaw P g) : OkC P S (srtCt S g e) := by
  refine ⟨hcall, ?_⟩
  intro n x y hy R w ρ As Ps args hst hdom hargs hits
  obtain ⟨l, _⟩ := x
  have hy' : (match Nat.ble l.length 4611686018427387903 with | true => some (sortZ l) | false => none) = some y := hy
  split at hy'
  · rename_i hlen
    obtain rfl := someI' hy'
    have hlen := Nat.le_of_ble_eq_true hlen
    obtain ⟨v, vs, rfl, hv, hvs⟩ := All2.cons_left hargs
    have e0 := All2.nil_left hvs
    subst e0
    obtain ⟨A, As', rfl, hA, hr⟩ := All2.cons_left hits
    have e0 := All2.nil_left hr
    subst e0
    obtain ⟨gh, cs, hg, rfl, hn, hmem⟩ := row_open hA
    obtain ⟨gh', hg', rfl⟩ := hv
    rw [hg] at hg'
    obtain rfl := someI' hg'
    have hown := hst.own _ (List.mem_singleton_self _)
    have hreps := (hst.per _ hmem).here
    have hcs : cs = l.map (Value.int .i64) := (flat_reps_enc (F := flatI .i64) hreps).trans (ints_flat l)
    have hlen2 : gh.n = l.length := hn
    have fin : ∀ w', (Asn.row gh.a gh.c e (S.sz (.int .i64)) gh.n ((sortZ l).map (Value.int .i64))).holds w' → Keep (Asn.row gh.a gh.c e (S.sz (.int .i64)) gh.n cs).fp w w' →
        ∃ v ρ' As' Ps', Ending.returned (.tuple #[]) = Ending.returned v ∧ ResOk P S (srtCt S g e) ρ ((srtCt S g e).un (sortZ l)) v As' ρ' Ps' ∧ Keep (fps [Asn.row gh.a gh.c e (S.sz (.int .i64)) gh.n cs]) w w' ∧ St R w' As' Ps' ∧ ∀ b ∈ fps As', b ∈ fps [Asn.row gh.a gh.c e (S.sz (.int .i64)) gh.n cs] ∨ w.heap.size ≤ b := by
      intro w' hrow hkeep
      have h1 := hst.addPs (ps := [RepsB (S.GT (.int .i64)) ((sortZ l).map (Value.int .i64)) (sortZ l)]) fun p hp => by
        rw [List.mem_singleton] at hp
        subst hp
        intro w2 _
        have := enc_flat_reps (F := flatI .i64) (w := w2) (sortZ l)
        rw [show (sortZ l).flatMap (flatI .i64).enc = (sortZ l).map (Value.int .i64) from ints_flat _] at this
        exact this
      have h2 := St.set (B := .row gh.a gh.c e (S.sz (.int .i64)) gh.n ((sortZ l).map (Value.int .i64))) h1 hkeep hrow (fun b hb => .inl (by rw [fp_row (ds := (sortZ l).map (Value.int .i64))]; exact hb)) fp_row_nodup
      refine ⟨_, ρ, [.row gh.a gh.c e (S.sz (.int .i64)) gh.n ((sortZ l).map (Value.int .i64))], _, rfl, ⟨⟨[], rfl, trivial⟩, ⟨⟨gh, _, hg, rfl, by rw [hn]; exact (sortZ_len l).symm, List.mem_cons_self ..⟩, trivial⟩, fun r g' hr => hdom r g' hr, fun r j p g' hr hj => ?_⟩, by simpa [fps] using hkeep, h2, fun b hb => .inl (by simp only [fps, List.flatMap_cons, List.flatMap_nil, List.append_nil] at hb ⊢; rw [fp_row (ds := (sortZ l).map (Value.int .i64))]; exact hb)⟩
      match r, hr with
      | 0, hr =>
        simp only [List.getElem?_cons_zero, Option.some.injEq, Prod.mk.injEq] at hr
        obtain ⟨rfl, _⟩ := hr
        exact hj
      | r + 1, hr => simp at hr
    rcases row_block' hown with ⟨ha, h0, hc0⟩ | ⟨b, ha⟩
    · have hl0 : l = [] := List.eq_nil_of_length_eq_zero (by omega)
      subst hl0
      have e1 : ([Value.slice gh.a gh.n gh.c] : List Value).toArray = #[.slice gh.a 0 gh.c] := by rw [h0]
      rw [e1]
      refine Calls.mono (hraw.2 gh.a gh.c w) fun e' w' ⟨h1, h2⟩ => ?_
      subst h1 h2
      refine fin _ ?_ (Keep.refl _ _)
      rw [hcs] at hown
      rw [show sortZ [] = [] from List.eq_nil_of_length_eq_zero (sortZ_len [])]
      exact hown
    · have ho' : w.ownsRow 0 e (S.sz (.int .i64)) (.slice gh.a gh.n gh.c) gh.n cs := hown
      rcases ho'.2 with ⟨hv, _⟩ | ⟨b', cap, cur, hv, hb, hgh, hnc, hcm, hcs', htake⟩
      · rw [ha] at hv; cases hv
      · injection hv with e1 e2 e3
        rw [ha] at e1
        injection e1 with e1
        injection e1 with e1
        subst e1 e3
        have hz : S.sz (.int .i64) = 1 := rfl
        have hH : Go.Sort.Holds (Value.int .i64) w b 0 l.toArray := Go.holds_of_blockI hgh (by rw [← hcs, ← htake, hz, Nat.mul_one, hlen2])
        have e1 : ([Value.slice gh.a gh.n gh.c] : List Value).toArray = #[.slice (some ⟨b, 0, none⟩) l.length gh.c] := by rw [ha, hlen2]
        rw [e1]
        refine Calls.mono (hraw.1 b gh.c l w hH (Array.getElem?_eq_some_iff.1 hgh).1 (by omega)) fun e' w' ⟨h1, k, os, h2⟩ => ?_
        subst h1 h2
        refine fin _ ?_ (Keep.grown (Go.grownBy_sortedI _) (fun c hc => by injection hc with hc; subst hc; rw [ha]; simp [Asn.fp]) (Nat.le_add_right _ _))
        rw [ha, hlen2]
        exact Go.ownsRow_sortedI (sortZ_len l) (Nat.zero_le _) hgh (by omega) hcm hcs'
  · cases hy'
end Go.Bur
namespace Go.Bur
open Go.RowKit
set_option linter.unusedVariables false
set_option linter.unusedSimpArgs false
def cpZ (l : List Int) : List Int := Go.Lib.compact l
theorem cpZ_len (l : List Int) : (cpZ l).length ≤ l.length := by
  unfold cpZ Go.Lib.compact Go.Lib.compactUpTo
  rw [List.length_map]
  exact Nat.le_trans (List.length_filter_le _ _) (by simp)
theorem grow0 (w : World) : Go.Sort.grow w #[] = w := by unfold Go.Sort.grow; cases w; simp
theorem row_less {g c e sz n m : Nat} {cs : List Value} {w : World} (h : (Asn.row (some ⟨g, 0, none⟩) c e sz n cs).holds w) (hm : m ≤ n) : (Asn.row (some ⟨g, 0, none⟩) c e sz m (cs.take (m * sz))).holds w := by
  have h' : w.ownsRow 0 e sz (.slice (some ⟨g, 0, none⟩) n c) n cs := h
  rcases h'.2 with ⟨hv, _⟩ | ⟨g', cap, cur, hv, hb, hg, hnc, hcm, hcs, htake⟩
  · cases hv
  · have hmul := Nat.mul_le_mul_right sz hm
    have hmul2 := Nat.mul_le_mul_right sz hnc
    injection hv with e1 e2 e3
    subst e3
    refine ⟨?_, .inr ⟨g', c, cur, by rw [e1], hb, hg, Nat.le_trans hm hnc, hcm, hcs, ?_⟩⟩
    · rw [List.length_take, h'.1]; omega
    · rw [← htake, List.take_take, Nat.min_eq_left hmul]
@[reducible] def cptCt (S : Tab) (g e : Nat) : Ct S := ⟨g, [.one (.own 0)], [.row e (.int .i64)], [.one (.own 0)], [(none, .row e (.int .i64))], List Int, fun y => (y, ()), fun y => y.1, fun _ => rfl, fun n x => match Nat.ble (@List.length Int x.1) 4611686018427387903 with | true => some (cpZ x.1) | false => none⟩
def CptRaw (P : Program) (g : Nat) : Prop := (∀ (blk cap : Nat) (zs : List Int) (w : World), Go.Sort.Holds (Value.int .i64) w blk 0 zs.toArray → zs.length < 4611686018427387904 → zs.length ≤ cap →
    Calls P g #[.slice (some ⟨blk, 0, none⟩) zs.length cap] w fun e w' => e = .returned (.slice (some ⟨blk, 0, none⟩) (cpZ zs).length cap) ∧ ∃ q, w' = Go.Sort.putRow (Value.int .i64) (Go.Sort.ahead w q) blk 0 (cpZ zs ++ List.replicate (zs.length - (cpZ zs).length) 0).toArray) ∧
  ∀ (p : Option Addr) (cap : Nat) (w : World), Calls P g #[.slice p 0 cap] w fun e w' => e = .returned (.slice p 0 cap) ∧ w' = w
theorem cpt_ok {P : Program} {S : Tab} {g e : Nat} (hcall : ∀ args w, (callFunc g args).run P w = .ok (.enter g args) w) (hraw : CptRaw P g) : OkC P S (cptCt S g e) := by
  refine ⟨hcall, ?_⟩
  intro n x y hy R w ρ As Ps args hst hdom hargs hits
  obtain ⟨l, _⟩ := x
  have hy' : (match Nat.ble l.length 4611686018427387903 with | true => some (cpZ l) | false => none) = some y := hy
  split at hy'
  · rename_i hlen
    obtain rfl := someI' hy'
    have hlen := Nat.le_of_ble_eq_true hlen
    obtain ⟨v, vs, rfl, hv, hvs⟩ := All2.cons_left hargs
    have e0 := All2.nil_left hvs
    subst e0
    obtain ⟨A, As', rfl, hA, hr⟩ := All2.cons_left hits
    have e0 := All2.nil_left hr
    subst e0
    obtain ⟨gh, cs, hg, rfl, hn, hmem⟩ := row_open hA
    obtain ⟨gh', hg', rfl⟩ := hv
    rw [hg] at hg'
    obtain rfl := someI' hg'
    have hown := hst.own _ (List.mem_singleton_self _)
    have hreps := (hst.per _ hmem).here
    have hcs : cs = l.map (Value.int .i64) := (flat_reps_enc (F := flatI .i64) hreps).trans (ints_flat l)
    have hlen2 : gh.n = l.length := hn
    have fin : ∀ w', (Asn.row gh.a gh.c e (S.sz (.int .i64)) (cpZ l).length ((cpZ l).map (Value.int .i64))).holds w' → Keep (Asn.row gh.a gh.c e (S.sz (.int .i64)) gh.n cs).fp w w' →
        ∃ v ρ' As' Ps', Ending.returned (.slice gh.a (cpZ l).length gh.c) = Ending.returned v ∧ ResOk P S (cptCt S g e) ρ ((cptCt S g e).un (cpZ l)) v As' ρ' Ps' ∧ Keep (fps [Asn.row gh.a gh.c e (S.sz (.int .i64)) gh.n cs]) w w' ∧ St R w' As' Ps' ∧ ∀ b ∈ fps As', b ∈ fps [Asn.row gh.a gh.c e (S.sz (.int .i64)) gh.n cs] ∨ w.heap.size ≤ b := by
      intro w' hrow hkeep
      have h1 := hst.addPs (ps := [RepsB (S.GT (.int .i64)) ((cpZ l).map (Value.int .i64)) (cpZ l)]) fun p hp => by
        rw [List.mem_singleton] at hp
        subst hp
        intro w2 _
        have := enc_flat_reps (F := flatI .i64) (w := w2) (cpZ l)
        rw [show (cpZ l).flatMap (flatI .i64).enc = (cpZ l).map (Value.int .i64) from ints_flat _] at this
        exact this
      have efp : (Asn.row gh.a gh.c e (S.sz (.int .i64)) (cpZ l).length ((cpZ l).map (Value.int .i64))).fp = (Asn.row gh.a gh.c e (S.sz (.int .i64)) gh.n cs).fp := by cases gh.a <;> rfl
      have h2 := St.set (B := .row gh.a gh.c e (S.sz (.int .i64)) (cpZ l).length ((cpZ l).map (Value.int .i64))) h1 hkeep hrow (fun b hb => .inl (by rw [← efp]; exact hb)) fp_row_nodup
      refine ⟨_, fun k => if k = 0 then some ⟨gh.a, gh.c, (cpZ l).length, gh.b, gh.j, gh.s⟩ else none, [.row gh.a gh.c e (S.sz (.int .i64)) (cpZ l).length ((cpZ l).map (Value.int .i64))], _, rfl, ⟨⟨_, rfl, rfl⟩, ⟨⟨_, _, rfl, rfl, rfl, List.mem_cons_self ..⟩, trivial⟩, fun r g' hr => ?_, fun r j p g' hr hj => ?_⟩, by simpa [fps] using hkeep, h2, fun b hb => .inl (by simp only [fps, List.flatMap_cons, List.flatMap_nil, List.append_nil] at hb ⊢; rw [← efp]; exact hb)⟩
      · by_cases h : r = 0
        · subst h; exact Nat.zero_lt_one
        · simp [h] at hr
      · match r, hr with
        | 0, hr => simp at hr
        | r + 1, hr => simp at hr
    rcases row_block' hown with ⟨ha, h0, hc0⟩ | ⟨b, ha⟩
    · have hl0 : l = [] := List.eq_nil_of_length_eq_zero (by omega)
      subst hl0
      have e1 : ([Value.slice gh.a gh.n gh.c] : List Value).toArray = #[.slice gh.a 0 gh.c] := by rw [h0]
      rw [e1]
      refine Calls.mono (hraw.2 gh.a gh.c w) fun e' w' ⟨h1, h2⟩ => ?_
      subst h1 h2
      have hz : cpZ [] = [] := List.eq_nil_of_length_eq_zero (Nat.le_zero.1 (cpZ_len []))
      have := fin w' (by
        rw [hcs, hn] at hown
        rw [hz]
        exact hown) (Keep.refl _ _)
      rw [hz] at this
      exact this
    · have ho' : w.ownsRow 0 e (S.sz (.int .i64)) (.slice gh.a gh.n gh.c) gh.n cs := hown
      rcases ho'.2 with ⟨hv, _⟩ | ⟨b', cap, cur, hv, hb, hgh, hnc, hcm, hcs', htake⟩
      · rw [ha] at hv; cases hv
      · injection hv with e1 e2 e3
        rw [ha] at e1
        injection e1 with e1
        injection e1 with e1
        subst e1 e3
        have hz : S.sz (.int .i64) = 1 := rfl
        have hH : Go.Sort.Holds (Value.int .i64) w b 0 l.toArray := Go.holds_of_blockI hgh (by rw [← hcs, ← htake, hz, Nat.mul_one, hlen2])
        have e1 : ([Value.slice gh.a gh.n gh.c] : List Value).toArray = #[.slice (some ⟨b, 0, none⟩) l.length gh.c] := by rw [ha, hlen2]
        rw [e1]
        refine Calls.mono (hraw.1 b gh.c l w hH (by omega) (by omega)) fun e' w' ⟨h1, k, h2⟩ => ?_
        subst h1
        have hcl := cpZ_len l
        have hfull : (cpZ l ++ List.replicate (l.length - (cpZ l).length) 0).length = l.length := by simp; omega
        have hk : Keep (Asn.row gh.a gh.c e (S.sz (.int .i64)) gh.n cs).fp w w' := by
          have h3 : Keep (Asn.row gh.a gh.c e (S.sz (.int .i64)) gh.n cs).fp w (Go.Sort.grow (Go.Sort.putRow (Value.int .i64) (Go.Sort.ahead w k) b 0 (cpZ l ++ List.replicate (l.length - (cpZ l).length) 0).toArray) #[]) :=
            Keep.grown (Go.grownBy_sortedI _) (fun c hc => by injection hc with hc; subst hc; rw [ha]; simp [Asn.fp]) (Nat.le_add_right _ _)
          rw [h2]
          rw [grow0] at h3
          exact h3
        have hrow : (Asn.row (some ⟨b, 0, none⟩) gh.c e (S.sz (.int .i64)) l.length ((cpZ l ++ List.replicate (l.length - (cpZ l).length) 0).map (Value.int .i64))).holds w' := by
          have := Go.ownsRow_sortedI (os := #[]) (n := k) hfull (Nat.zero_le _) hgh (by omega) hcm hcs'
          rw [h2]
          rw [grow0] at this
          exact this
        have hrow2 := row_less hrow hcl
        have e2 : ((cpZ l ++ List.replicate (l.length - (cpZ l).length) 0).map (Value.int .i64)).take ((cpZ l).length * S.sz (.int .i64)) = (cpZ l).map (Value.int .i64) := by
          rw [hz, Nat.mul_one, List.map_append, List.take_left' (by simp)]
        rw [e2] at hrow2
        have := fin w' (by rw [ha]; exact hrow2) hk
        rw [ha] at this ⊢
        exact this
  · cases hy'
end Go.Bur
