/- Of the law RowChanges the call returns true at every input, and what it was handed reads as before. No condition. -/
import Derived.Test.YtlflbhhajnoelaaPlain3
import Derived.Test.YtlflbhhajnoelaaRead
import Derived.Test.YtlflbhhajnoelaaRows
import Derived.WalkKit
import Derived.ProofKit
import Derived.OpenShut
import Derived.ShutString
import Derived.ChangeOld
import Derived.Below
namespace Go.Proofs.Ytlflbhhajnoelaa.rowChanges
open Go.ChangeShapes Go.WideShapes Go.ChangeAt Go.RowKit Go.Bur
open Go.ChangeMaps (open_string shut_string)
set_option linter.unusedVariables false

theorem own : ownKnob Try.prog.godebug = none := by kernel_rfl
theorem laidOut : laidOutB Try.prog = true := by kernel_rfl

set_option maxRecDepth 100000 in
theorem lifted (os : Os) (started : os.Started) (H : Type) (enc : TypeId × Value → H) :
    ReturnsInHanded {} Try.checked os 6 .any (Rows.rowChangesSpec.pre6 enc Try.prog Try.f6 Rows.rowChangesRow.domain false) (Rows.rowChangesSpec.post enc Try.prog Try.f6 false true false false) := by
  refine returnsInHanded_of_change (C := Try.checked) own started (by kernel_rfl) Try.func6
    (ChangeSpec.witness6 (enc := enc) (C := Try.checked) false ⟨#[], #[.agg #[.slice none 0 0], .slice none 0 0, .agg #[.int .i64 0, .int .u16 0, .int .i64 0, .string ByteArray.empty]], []⟩ 8 (by kernel_rfl) (by kernel_rfl) (by kernel_rfl) (by kernel_rfl)) ?_
  intro W base args ds gs before hval0 hW hcnd _
  have hval : ∀ (j : Nat) t v, Try.f6.params[j]? = some t → args[j]? = some v → Value.okWide Try.prog W .any base t v := hval0
  have hW' := hW
  obtain ⟨p, q, hA0, hV, rfl, hfz, hnd⟩ := hW
  have hA : DataW.TrodAll enc Try.prog W 0 (fun _ => true) true Try.f6.params.toList args.toList ds p := hA0
  rw [Try.params6] at hA hval
  obtain ⟨v0, vs0, d0, ds0, p0, q0, hargs, rfl, rfl, h0, r0⟩ := trodAll_cons hA
  obtain ⟨v1, vs1, d1, ds1, p1, q1, rfl, rfl, rfl, h1, r1⟩ := trodAll_cons r0
  obtain ⟨v2, vs2, d2, ds2, p2, q2, rfl, rfl, rfl, h2, r2⟩ := trodAll_cons r1
  obtain ⟨rfl, rfl, rfl⟩ := trodAll_nil r2
  obtain rfl : args = #[v0, v1, v2] := by cases args; simp_all
  obtain ⟨rfl, rfl⟩ := trodVars_none hV
  have k0 := h0
  have lt0 : ∀ x ∈ p0, x.block < W.heap.size := by obtain ⟨m, hm⟩ := k0; exact DataW.trod_lt m _ _ _ hm
  obtain ⟨cs0, rfl, hsz0⟩ := okWide_struct Try.underlying24 (hval 0 24 v0 rfl rfl)
  obtain ⟨m0, hm0⟩ := h0
  obtain ⟨xs0, mm0, _, _, hl0, hn0, hf0⟩ := DataW.trod_struct Try.underlying24 hm0
  obtain ⟨c0_0, hcs0⟩ := len_1 (hl0.trans (by kernel_rfl : Try.prog.cellsOf 24 = 1))
  replace hcs0 : cs0.toList = [c0_0] := hcs0
  obtain rfl : cs0 = #[c0_0] := by cases cs0; simp_all
  have k0_0 := (hf0 0 _ rfl).trans (List.getElem?_eq_getElem (by rw [hn0]; decide))
  obtain ⟨b0_0, d0_0, y0_0, e0_0, s0_0, o0_0, u0_0⟩ := rd_slice Try.underlying22 (by kernel_rfl) rd_61 k0_0
  replace e0_0 : [c0_0] = [_] := e0_0
  cases e0_0
  have k1 := h1
  have lt1 : ∀ x ∈ p1, x.block < W.heap.size := by obtain ⟨m, hm⟩ := k1; exact DataW.trod_lt m _ _ _ hm
  obtain ⟨x1, y1, z1, rfl⟩ := okWide_slice Try.underlying25 (hval 1 25 v1 rfl rfl)
  obtain ⟨m1, hm1⟩ := h1
  obtain ⟨b1, c1, a1, e1, s1, o1, u1⟩ := rd_slice Try.underlying25 (by kernel_rfl) rd_38 hm1
  replace e1 : [Value.slice x1 y1 z1] = [_] := e1
  cases e1
  have k2 := h2
  have lt2 : ∀ x ∈ p2, x.block < W.heap.size := by obtain ⟨m, hm⟩ := k2; exact DataW.trod_lt m _ _ _ hm
  obtain ⟨cs2, rfl, hsz2⟩ := okWide_struct Try.underlying38 (hval 2 38 v2 rfl rfl)
  obtain ⟨m2, hm2⟩ := h2
  obtain ⟨xs2, mm2, _, _, hl2, hn2, hf2⟩ := DataW.trod_struct Try.underlying38 hm2
  obtain ⟨c2_0, c2_1, c2_2, c2_3, hcs2⟩ := len_4 (hl2.trans (by kernel_rfl : Try.prog.cellsOf 38 = 4))
  replace hcs2 : cs2.toList = [c2_0, c2_1, c2_2, c2_3] := hcs2
  obtain rfl : cs2 = #[c2_0, c2_1, c2_2, c2_3] := by cases cs2; simp_all
  have k2_0 := (hf2 0 _ rfl).trans (List.getElem?_eq_getElem (by rw [hn2]; decide))
  obtain ⟨y2_0, e2_0, o2_0⟩ := rd_28 _ _ _ _ _ _ _ _ _ k2_0
  replace e2_0 : [c2_0, c2_1] = Flat.enc (self := flat_Key) y2_0 := e2_0
  have k2_1 := (hf2 1 _ rfl).trans (List.getElem?_eq_getElem (by rw [hn2]; decide))
  obtain ⟨y2_1, e2_1, o2_1⟩ := rd_2 _ _ _ _ _ _ _ _ _ k2_1
  replace e2_1 : [c2_2] = Flat.enc (self := (flatI .i64)) y2_1 := e2_1
  have k2_2 := (hf2 2 _ rfl).trans (List.getElem?_eq_getElem (by rw [hn2]; decide))
  obtain ⟨y2_2, e2_2, o2_2⟩ := rd_9 _ _ _ _ _ _ _ _ _ k2_2
  replace e2_2 : [c2_3] = Flat.enc (self := flat_str) y2_2 := e2_2
  cases e2_0
  cases e2_1
  cases e2_2
  clear hA0 hval0
  obtain ⟨N, hN⟩ := rowChanges (Schema.mk y0_0) a1 (Row.mk y2_0 y2_1 y2_2) ⟨o0_0, u0_0⟩ ⟨o1, u1⟩ ⟨o2_0, o2_1, o2_2⟩
  refine Calls.mono ((law05_RowChanges_ok N (Schema.mk y0_0) a1 (Row.mk y2_0 y2_1 y2_2) true hN).2 [] W (St.start ⟨Bx.ofRS (F := flat_Bounds) s0_0, Bx.ofRS (F := flat_Row) s1, trivial⟩)) fun e W' hq => ?_
  obtain ⟨v, A', P', rfl, ⟨rfl, rfl, rfl⟩, hk, _, _⟩ := hq
  have bel : Below W.heap.size W W' := hk.toExt
  exact ⟨_, rfl, _, _, _, [], _, [], hW', trodAll_mk1 (shut_bool Try.underlying4 _), (trodAll_cons_mk (Below.trod laidOut (by kernel_rfl) (of_decide_eq_true (by kernel_rfl)) k0 bel lt0) (trodAll_cons_mk (Below.trod laidOut (by kernel_rfl) (of_decide_eq_true (by kernel_rfl)) k1 bel lt1) (trodAll_cons_mk (Below.trod laidOut (by kernel_rfl) (of_decide_eq_true (by kernel_rfl)) k2 bel lt2) trodAll_mk0))), rfl, bel.frame _, fun h => by cases h⟩

theorem over : Rows.rowChangesRow.holds Try.pinned (OpenSpec.ofChange Rows.rowChangesSpec) :=
  OpenClaim.holds_of_wide 6 Try.f6 rfl rfl rfl rfl rfl rfl rfl ⟨rfl, rfl, rfl, rfl, rfl⟩ rfl rfl rfl rfl rfl (by kernel_rfl) Try.func6 (by kernel_rfl)
    (of_decide_eq_true (by kernel_rfl)) (by unfold Func.isWrapper; first | (rw [if_pos (by decide +kernel)]; kernel_rfl) | (rw [if_neg (by decide +kernel)]; exact ⟨rfl, rfl⟩))
    (fun os started H enc _ => lifted os started H enc)

theorem proved : Rows.RowChangesSaid := over
end Go.Proofs.Ytlflbhhajnoelaa.rowChanges
