/- Of the law RowFinds the call returns true at every input, and what it was handed reads as before. No condition. -/
import Derived.Test.YtlflbhhajnoelaaPlain2
import Derived.Test.YtlflbhhajnoelaaRead
import Derived.Test.YtlflbhhajnoelaaRows
import Derived.WalkKit
import Derived.ProofKit
import Derived.OpenShut
import Derived.ShutString
import Derived.ChangeOld
import Derived.Below
namespace Go.Proofs.Ytlflbhhajnoelaa.rowFinds
open Go.ChangeShapes Go.WideShapes Go.ChangeAt Go.RowKit Go.Bur
open Go.ChangeMaps (open_string shut_string)
set_option linter.unusedVariables false

theorem own : ownKnob Try.prog.godebug = none := by kernel_rfl
theorem laidOut : laidOutB Try.prog = true := by kernel_rfl

set_option maxRecDepth 100000 in
theorem lifted (os : Os) (started : os.Started) (H : Type) (enc : TypeId × Value → H) :
    ReturnsInHanded {} Try.checked os 7 .any (Rows.rowFindsSpec.pre6 enc Try.prog Try.f7 Rows.rowFindsRow.domain false) (Rows.rowFindsSpec.post enc Try.prog Try.f7 false true false false) := by
  refine returnsInHanded_of_change (C := Try.checked) own started (by kernel_rfl) Try.func7
    (ChangeSpec.witness6 (enc := enc) (C := Try.checked) false ⟨#[], #[.slice none 0 0, .slice none 0 0, .agg #[.int .i64 0, .int .u16 0]], []⟩ 8 (by kernel_rfl) (by kernel_rfl) (by kernel_rfl) (by kernel_rfl)) ?_
  intro W base args ds gs before hval0 hW hcnd _
  have hval : ∀ (j : Nat) t v, Try.f7.params[j]? = some t → args[j]? = some v → Value.okWide Try.prog W .any base t v := hval0
  have hW' := hW
  obtain ⟨p, q, hA0, hV, rfl, hfz, hnd⟩ := hW
  have hA : DataW.TrodAll enc Try.prog W 0 (fun _ => true) true Try.f7.params.toList args.toList ds p := hA0
  rw [Try.params7] at hA hval
  obtain ⟨v0, vs0, d0, ds0, p0, q0, hargs, rfl, rfl, h0, r0⟩ := trodAll_cons hA
  obtain ⟨v1, vs1, d1, ds1, p1, q1, rfl, rfl, rfl, h1, r1⟩ := trodAll_cons r0
  obtain ⟨v2, vs2, d2, ds2, p2, q2, rfl, rfl, rfl, h2, r2⟩ := trodAll_cons r1
  obtain ⟨rfl, rfl, rfl⟩ := trodAll_nil r2
  obtain rfl : args = #[v0, v1, v2] := by cases args; simp_all
  obtain ⟨rfl, rfl⟩ := trodVars_none hV
  have k0 := h0
  have lt0 : ∀ x ∈ p0, x.block < W.heap.size := by obtain ⟨m, hm⟩ := k0; exact DataW.trod_lt m _ _ _ hm
  obtain ⟨x0, y0, z0, rfl⟩ := okWide_slice Try.underlying25 (hval 0 25 v0 rfl rfl)
  obtain ⟨m0, hm0⟩ := h0
  obtain ⟨b0, c0, a0, e0, s0, o0, u0⟩ := rd_slice Try.underlying25 (by kernel_rfl) rd_38 hm0
  replace e0 : [Value.slice x0 y0 z0] = [_] := e0
  cases e0
  have k1 := h1
  have lt1 : ∀ x ∈ p1, x.block < W.heap.size := by obtain ⟨m, hm⟩ := k1; exact DataW.trod_lt m _ _ _ hm
  obtain ⟨x1, y1, z1, rfl⟩ := okWide_slice Try.underlying25 (hval 1 25 v1 rfl rfl)
  obtain ⟨m1, hm1⟩ := h1
  obtain ⟨b1, c1, a1, e1, s1, o1, u1⟩ := rd_slice Try.underlying25 (by kernel_rfl) rd_38 hm1
  replace e1 : [Value.slice x1 y1 z1] = [_] := e1
  cases e1
  have k2 := h2
  have lt2 : ∀ x ∈ p2, x.block < W.heap.size := by obtain ⟨m, hm⟩ := k2; exact DataW.trod_lt m _ _ _ hm
  obtain ⟨cs2, rfl, hsz2⟩ := okWide_struct Try.underlying28 (hval 2 28 v2 rfl rfl)
  obtain ⟨m2, hm2⟩ := h2
  obtain ⟨xs2, mm2, _, _, hl2, hn2, hf2⟩ := DataW.trod_struct Try.underlying28 hm2
  obtain ⟨c2_0, c2_1, hcs2⟩ := len_2 (hl2.trans (by kernel_rfl : Try.prog.cellsOf 28 = 2))
  replace hcs2 : cs2.toList = [c2_0, c2_1] := hcs2
  obtain rfl : cs2 = #[c2_0, c2_1] := by cases cs2; simp_all
  have k2_0 := (hf2 0 _ rfl).trans (List.getElem?_eq_getElem (by rw [hn2]; decide))
  obtain ⟨y2_0, e2_0, o2_0⟩ := rd_3 _ _ _ _ _ _ _ _ _ k2_0
  replace e2_0 : [c2_0] = Flat.enc (self := (flatI .i64)) y2_0 := e2_0
  have k2_1 := (hf2 1 _ rfl).trans (List.getElem?_eq_getElem (by rw [hn2]; decide))
  obtain ⟨y2_1, e2_1, o2_1⟩ := rd_26 _ _ _ _ _ _ _ _ _ k2_1
  replace e2_1 : [c2_1] = Flat.enc (self := (flatI .u16)) y2_1 := e2_1
  cases e2_0
  cases e2_1
  clear hA0 hval0
  obtain ⟨N, hN⟩ := rowFinds a0 a1 (Key.mk y2_0 y2_1) ⟨o0, u0⟩ ⟨o1, u1⟩ ⟨o2_0, o2_1⟩
  refine Calls.mono ((law05_RowFinds_ok N a0 a1 (Key.mk y2_0 y2_1) true hN).2 [] W (St.start ⟨Bx.ofRS (F := flat_Row) s0, Bx.ofRS (F := flat_Row) s1, trivial⟩)) fun e W' hq => ?_
  obtain ⟨v, A', P', rfl, ⟨rfl, rfl, rfl⟩, hk, _, _⟩ := hq
  have bel : Below W.heap.size W W' := hk.toExt
  exact ⟨_, rfl, _, _, _, [], _, [], hW', trodAll_mk1 (shut_bool Try.underlying4 _), (trodAll_cons_mk (Below.trod laidOut (by kernel_rfl) (of_decide_eq_true (by kernel_rfl)) k0 bel lt0) (trodAll_cons_mk (Below.trod laidOut (by kernel_rfl) (of_decide_eq_true (by kernel_rfl)) k1 bel lt1) (trodAll_cons_mk (Below.trod laidOut (by kernel_rfl) (of_decide_eq_true (by kernel_rfl)) k2 bel lt2) trodAll_mk0))), rfl, bel.frame _, fun h => by cases h⟩

theorem over : Rows.rowFindsRow.holds Try.pinned (OpenSpec.ofChange Rows.rowFindsSpec) :=
  OpenClaim.holds_of_wide 7 Try.f7 rfl rfl rfl rfl rfl rfl rfl ⟨rfl, rfl, rfl, rfl, rfl⟩ rfl rfl rfl rfl rfl (by kernel_rfl) Try.func7 (by kernel_rfl)
    (of_decide_eq_true (by kernel_rfl)) (by unfold Func.isWrapper; first | (rw [if_pos (by decide +kernel)]; kernel_rfl) | (rw [if_neg (by decide +kernel)]; exact ⟨rfl, rfl⟩))
    (fun os started H enc _ => lifted os started H enc)

theorem proved : Rows.RowFindsSaid := over
end Go.Proofs.Ytlflbhhajnoelaa.rowFinds
