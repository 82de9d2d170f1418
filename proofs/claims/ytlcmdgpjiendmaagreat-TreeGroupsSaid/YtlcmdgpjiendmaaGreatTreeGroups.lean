/- Of the law TreeGroups the call returns true at every input, and what it was handed reads as before. No condition. -/
import Derived.Test.YtlcmdgpjiendmaaGreatTrhF
import Derived.Test.YtlcmdgpjiendmaaGreatRw
import Derived.Test.YtlcmdgpjiendmaaGreatRows
import Derived.WalkKit
import Derived.ProofKit
import Derived.OpenShut
import Derived.ShutString
import Derived.ChangeOld
import Derived.Below
namespace Go.Proofs.YtlcmdgpjiendmaaGreat.treeGroups
open Go.ChangeShapes Go.WideShapes Go.ChangeAt Go.RowKit Go.Bur
open Go.ChangeMaps (open_string shut_string)
set_option linter.unusedVariables false
theorem own : ownKnob Tryz.prog.godebug = none := by kernel_rfl
theorem laidOut : laidOutB Tryz.prog = true := by kernel_rfl
set_option maxRecDepth 100000 in
theorem lifted (os : Os) (started : os.Started) (H : Type) (enc : TypeId × Value → H) :
  ReturnsInHanded {} Tryz.checked os 10 .any (Rows.treeGroupsSpec.pre6 enc Tryz.prog Tryz.f10 Rows.treeGroupsRow.domain false) (Rows.treeGroupsSpec.post enc Tryz.prog Tryz.f10 false true false false) := by
 refine returnsInHanded_of_change (C := Tryz.checked) own started (by kernel_rfl) Tryz.func10
  (ChangeSpec.witness6 (enc := enc) (C := Tryz.checked) false ⟨#[], #[.agg #[.slice none 0 0], .agg #[.int .i64 0, .int .u16 0, .int .i64 0, .string ByteArray.empty], .bool false], []⟩ 8 (by kernel_rfl) (by kernel_rfl) (by kernel_rfl) (by kernel_rfl)) ?_
 intro W base args ds gs before hval0 hW hcnd _
 have hval : ∀ (j : Nat) t v, Tryz.f10.params[j]? = some t → args[j]? = some v → Value.okWide Tryz.prog W .any base t v := hval0
 have hW' := hW
 obtain ⟨p, q, hA0, hV, rfl, hfz, hnd⟩ := hW
 have hA : DataW.TrodAll enc Tryz.prog W 0 (fun _ => true) true Tryz.f10.params.toList args.toList ds p := hA0
 rw [Tryz.params10] at hA hval
 obtain ⟨v0, vs0, d0, ds0, p0, q0, hargs, rfl, rfl, h0, r0⟩ := trodAll_cons hA
 obtain ⟨v1, vs1, d1, ds1, p1, q1, rfl, rfl, rfl, h1, r1⟩ := trodAll_cons r0
 obtain ⟨v2, vs2, d2, ds2, p2, q2, rfl, rfl, rfl, h2, r2⟩ := trodAll_cons r1
 obtain ⟨rfl, rfl, rfl⟩ := trodAll_nil r2
 obtain rfl : args = #[v0, v1, v2] := by cases args; simp_all
 obtain ⟨rfl, rfl⟩ := trodVars_none hV
 have lt0 : ∀ x ∈ p0, x.block < W.heap.size := by obtain ⟨m, hm⟩ := h0; exact DataW.trod_lt m _ _ _ hm
 obtain ⟨a0, P0, b0, o0, e0⟩ := Ww (P := Tryz.prog) (S := tab) (T := (.st 0)) aK (ty := bE) (f := 12) (by kernel_rfl) (hval 0 24 v0 rfl rfl) h0 9
 have lt1 : ∀ x ∈ p1, x.block < W.heap.size := by obtain ⟨m, hm⟩ := h1; exact DataW.trod_lt m _ _ _ hm
 obtain ⟨a1, P1, b1, o1, e1⟩ := Ww (P := Tryz.prog) (S := tab) (T := (.st 2)) aK (ty := bE) (f := 12) (by kernel_rfl) (hval 1 40 v1 rfl rfl) h1 9
 have lt2 : ∀ x ∈ p2, x.block < W.heap.size := by obtain ⟨m, hm⟩ := h2; exact DataW.trod_lt m _ _ _ hm
 obtain ⟨a2, P2, b2, o2, e2⟩ := Ww (P := Tryz.prog) (S := tab) (T := .bool) aK (ty := bE) (f := 12) (by kernel_rfl) (hval 2 4 v2 rfl rfl) h2 9
 clear hA0 hval0
 obtain ⟨N, hN⟩ := H8 a0 a1 a2 o0 o1 o2
 refine Calls.mono (Dw.2 N (a0, a1, a2, ()) true hN [] W (fun _ => none) [] (P0 ++ (P1 ++ (P2))) [v0, v1, v2] (St.began (fun p hp => (List.mem_append.1 hp).elim (b0 p) ((fun p hp => (List.mem_append.1 hp).elim (b1 p) (b2 p)) p))) (fun j g h => by cases h) ⟨bJ.mono (fun _ _ h => h) (fun p hp => List.mem_append_left _ hp) (e0 _), ⟨bJ.mono (fun _ _ h => h) (fun p hp => List.mem_append_right _ (List.mem_append_left _ hp)) (e1 _), ⟨bJ.mono (fun _ _ h => h) (fun p hp => List.mem_append_right _ (List.mem_append_right _ (hp))) (e2 _), trivial⟩⟩⟩ trivial) fun e W' hq => ?_
 obtain ⟨v, ρ', As', Ps', rfl, hr, hk, _, _⟩ := hq
 obtain rfl : v = .bool true := hr.1
 have bel : Below W.heap.size W W' := hk.toExt.below
 exact ⟨_, rfl, _, _, _, [], _, [], hW', trodAll_mk1 (shut_bool Tryz.underlying4 _), (trodAll_cons_mk (Below.trod laidOut (by kernel_rfl) (of_decide_eq_true (by kernel_rfl)) h0 bel lt0) (trodAll_cons_mk (Below.trod laidOut (by kernel_rfl) (of_decide_eq_true (by kernel_rfl)) h1 bel lt1) (trodAll_cons_mk (Below.trod laidOut (by kernel_rfl) (of_decide_eq_true (by kernel_rfl)) h2 bel lt2) trodAll_mk0))), rfl, bel.frame _, fun h => by cases h⟩
theorem over : Rows.treeGroupsRow.holds Tryz.pinned (OpenSpec.ofChange Rows.treeGroupsSpec) :=
 OpenClaim.holds_of_wide 10 Tryz.f10 rfl rfl rfl rfl rfl rfl rfl ⟨rfl, rfl, rfl, rfl, rfl⟩ rfl rfl rfl rfl rfl (by kernel_rfl) Tryz.func10 (by kernel_rfl)
  (of_decide_eq_true (by kernel_rfl)) (by unfold Func.isWrapper; first | (rw [if_pos (by decide +kernel)]; kernel_rfl) | (rw [if_neg (by decide +kernel)]; exact ⟨rfl, rfl⟩))
  (fun os started H enc _ => lifted os started H enc)
theorem proved : Rows.TreeGroupsSaid := over
end Go.Proofs.YtlcmdgpjiendmaaGreat.treeGroups
