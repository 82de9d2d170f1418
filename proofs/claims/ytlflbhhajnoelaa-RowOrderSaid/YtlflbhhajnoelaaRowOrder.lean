/- Of the law RowOrder the call returns true at every input, and what it was handed reads as before. No condition. -/
import Derived.Test.YtlflbhhajnoelaaPlain
import Derived.Test.YtlflbhhajnoelaaRead
import Derived.Test.YtlflbhhajnoelaaRows
import Derived.WalkKit
import Derived.ProofKit
import Derived.OpenShut
import Derived.ShutString
import Derived.ChangeOld
import Derived.Below
namespace Go.Proofs.Ytlflbhhajnoelaa.rowOrder
open Go.ChangeShapes Go.WideShapes Go.ChangeAt Go.RowKit Go.Bur
open Go.ChangeMaps (open_string shut_string)
set_option linter.unusedVariables false

theorem own : ownKnob Try.prog.godebug = none := by kernel_rfl
theorem laidOut : laidOutB Try.prog = true := by kernel_rfl

set_option maxRecDepth 100000 in
theorem lifted (os : Os) (started : os.Started) (H : Type) (enc : TypeId × Value → H) :
    ReturnsInHanded {} Try.checked os 4 .any (Rows.rowOrderSpec.pre6 enc Try.prog Try.f4 Rows.rowOrderRow.domain false) (Rows.rowOrderSpec.post enc Try.prog Try.f4 false true false false) := by
  refine returnsInHanded_of_change (C := Try.checked) own started (by kernel_rfl) Try.func4
    (ChangeSpec.witness6 (enc := enc) (C := Try.checked) false ⟨#[], #[.slice none 0 0], []⟩ 8 (by kernel_rfl) (by kernel_rfl) (by kernel_rfl) (by kernel_rfl)) ?_
  intro W base args ds gs before hval0 hW hcnd _
  have hval : ∀ (j : Nat) t v, Try.f4.params[j]? = some t → args[j]? = some v → Value.okWide Try.prog W .any base t v := hval0
  have hW' := hW
  obtain ⟨p, q, hA0, hV, rfl, hfz, hnd⟩ := hW
  have hA : DataW.TrodAll enc Try.prog W 0 (fun _ => true) true Try.f4.params.toList args.toList ds p := hA0
  rw [Try.params4] at hA hval
  obtain ⟨v0, vs0, d0, ds0, p0, q0, hargs, rfl, rfl, h0, r0⟩ := trodAll_cons hA
  obtain ⟨rfl, rfl, rfl⟩ := trodAll_nil r0
  obtain rfl : args = #[v0] := by cases args; simp_all
  obtain ⟨rfl, rfl⟩ := trodVars_none hV
  have k0 := h0
  have lt0 : ∀ x ∈ p0, x.block < W.heap.size := by obtain ⟨m, hm⟩ := k0; exact DataW.trod_lt m _ _ _ hm
  obtain ⟨x0, y0, z0, rfl⟩ := okWide_slice Try.underlying40 (hval 0 40 v0 rfl rfl)
  obtain ⟨m0, hm0⟩ := h0
  obtain ⟨b0, c0, a0, e0, s0, o0, u0⟩ := rd_slice Try.underlying40 (by kernel_rfl) rd_28 hm0
  replace e0 : [Value.slice x0 y0 z0] = [_] := e0
  cases e0
  clear hA0 hval0
  obtain ⟨N, hN⟩ := rowOrder a0 ⟨o0, u0⟩
  refine Calls.mono ((law05_RowOrder_ok N a0 true hN).2 [] W (St.start ⟨Bx.ofRS (F := flat_Key) s0, trivial⟩)) fun e W' hq => ?_
  obtain ⟨v, A', P', rfl, ⟨rfl, rfl, rfl⟩, hk, _, _⟩ := hq
  have bel : Below W.heap.size W W' := hk.toExt
  exact ⟨_, rfl, _, _, _, [], _, [], hW', trodAll_mk1 (shut_bool Try.underlying4 _), (trodAll_cons_mk (Below.trod laidOut (by kernel_rfl) (of_decide_eq_true (by kernel_rfl)) k0 bel lt0) trodAll_mk0), rfl, bel.frame _, fun h => by cases h⟩

theorem over : Rows.rowOrderRow.holds Try.pinned (OpenSpec.ofChange Rows.rowOrderSpec) :=
  OpenClaim.holds_of_wide 4 Try.f4 rfl rfl rfl rfl rfl rfl rfl ⟨rfl, rfl, rfl, rfl, rfl⟩ rfl rfl rfl rfl rfl (by kernel_rfl) Try.func4 (by kernel_rfl)
    (of_decide_eq_true (by kernel_rfl)) (by unfold Func.isWrapper; first | (rw [if_pos (by decide +kernel)]; kernel_rfl) | (rw [if_neg (by decide +kernel)]; exact ⟨rfl, rfl⟩))
    (fun os started H enc _ => lifted os started H enc)

theorem proved : Rows.RowOrderSaid := over
end Go.Proofs.Ytlflbhhajnoelaa.rowOrder
