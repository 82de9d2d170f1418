/- Functions of the program: plain twins and walks, printed by program. -/
import Derived.Test.YtghinjlfaicpjaaTypes
namespace Go.Proofs.Ytghinjlfaicpjaa
open Go.Bur Go.RowKit
set_option linter.unusedVariables false
set_option linter.unusedSimpArgs false
set_option maxRecDepth 100000
/-! bursary mode.is -/
def mode_is (n : Nat) (p0 : Int) : Option Bool :=
  some ((decide (p0 ≥ 0)) && (decide (p0 < 7)))
noncomputable def mode_is_c0 : Code := bodyOf Try.f24
noncomputable def mode_is_c1 : Code := seqL mode_is_c0
noncomputable def mode_is_c2 : Code := seqR mode_is_c0
noncomputable def mode_is_c1o : Array Oper := regO mode_is_c1
noncomputable def mode_is_c3 : Code := seqL mode_is_c2
noncomputable def mode_is_c4 : Code := seqR mode_is_c2
noncomputable def mode_is_c3o : Array Oper := regO mode_is_c3
theorem mode_is_ok (n : Nat) (p0 : Int) (r : Bool) (w : World)  (h : mode_is n p0 = some r) :
    Calls Try.prog 24 #[.int .i64 p0] w fun e w' => e = .returned (.bool r) ∧ Ext w w' := by
  unfold mode_is at h
  refine enter 9 Try.func24 rfl (by kernel_rfl) (by simp) fun a hA => ?_
  change mode_is_c0.wp _ _ _ _
  refine c_seq mode_is_c1 mode_is_c2 (by kernel_rfl) fun K27 hK27 => ?_
  refine c_region mode_is_c1o 1 (by kernel_rfl) (by kernel_rfl) ?_
  refine wl_run 0 1 [0] hA rfl (L' := [(0, .int .i64 p0)]) (vs := []) (obl := []) (by kernel_rfl) trivial fun a28 hA29 => ?_
  refine wl_end ?_
  refine hK27 _ _ ?_
  refine c_seq mode_is_c3 mode_is_c4 (by kernel_rfl) fun K30 hK30 => ?_
  refine c_region mode_is_c3o 7 (by kernel_rfl) (by kernel_rfl) ?_
  refine wl_run 0 3 [0, 5] hA29 rfl (L' := [(0, .int .i64 p0), (5, .bool (decide (p0 ≥ 0)))]) (vs := []) (obl := []) (by kernel_rfl) trivial fun a31 hA32 => ?_
  refine wl_cut 6 rfl rfl fun K33 hK33 => ?_
  have JK33 : ∀ (a39 : Act), Has a39 9 [(8, .bool ((decide (p0 ≥ 0)) && (decide (p0 < 7))))] → K33 a39 w := by
    intro a39 hA40
    refine hK33 _ _ ?_
    refine wl_run 6 1 [2] hA40 rfl (L' := [(2, .bool ((decide (p0 ≥ 0)) && (decide (p0 < 7))))]) (vs := []) (obl := []) (by kernel_rfl) trivial fun a42 hA43 => ?_
    refine wl_end ?_
    refine hK30 _ _ ?_
    refine c_ret (by kernel_rfl) ?_
    obtain rfl := someI h
    try simp only [Exit.then, Exit.inBlock]
    refine ret1 hA43 2 _ (by kernel_rfl) rfl rfl ?_
    exact ⟨rfl, (Ext.refl _)⟩
  cases hb44 : (decide (p0 ≥ 0))
  · have hA45 := Has.to (L' := [(0, .int .i64 p0), (5, .bool false)]) hA32 (by rw [hb44])
    refine wl_run 3 3 [8] hA45 rfl (L' := [(8, .bool false)]) (vs := []) (obl := []) (by kernel_rfl) trivial fun a47 hA48 => ?_
    refine wl_end ?_
    exact JK33 a47 (Has.to (Has.keep hA48 [8] rfl) (by rw [hb44]; rfl))
  · have hA49 := Has.to (L' := [(0, .int .i64 p0), (5, .bool true)]) hA32 (by rw [hb44])
    refine wl_run 3 3 [8] hA49 rfl (L' := [(8, .bool (decide (p0 < 7)))]) (vs := []) (obl := []) (by kernel_rfl) trivial fun a51 hA52 => ?_
    refine wl_end ?_
    exact JK33 a51 (Has.to (Has.keep hA52 [8] rfl) (by rw [hb44]; rfl))

/-! bursary mode.OfTables -/
def mode_OfTables (n : Nat) (p0 : Int) : Option Bool :=
  (mode_is n p0).bind fun y40 =>
  some (y40 && (p0 != 6))
noncomputable def mode_OfTables_c0 : Code := bodyOf Try.f19
noncomputable def mode_OfTables_c1 : Code := seqL mode_OfTables_c0
noncomputable def mode_OfTables_c2 : Code := seqR mode_OfTables_c0
noncomputable def mode_OfTables_c1o : Array Oper := regO mode_OfTables_c1
noncomputable def mode_OfTables_c3 : Code := seqL mode_OfTables_c2
noncomputable def mode_OfTables_c4 : Code := seqR mode_OfTables_c2
noncomputable def mode_OfTables_c3o : Array Oper := regO mode_OfTables_c3
theorem mode_OfTables_ok (n : Nat) (p0 : Int) (r : Bool) (w : World)  (h : mode_OfTables n p0 = some r) :
    Calls Try.prog 19 #[.int .i64 p0] w fun e w' => e = .returned (.bool r) ∧ Ext w w' := by
  unfold mode_OfTables at h
  refine enter 9 Try.func19 rfl (by kernel_rfl) (by simp) fun a hA => ?_
  change mode_OfTables_c0.wp _ _ _ _
  refine c_seq mode_OfTables_c1 mode_OfTables_c2 (by kernel_rfl) fun K34 hK34 => ?_
  refine c_region mode_OfTables_c1o 1 (by kernel_rfl) (by kernel_rfl) ?_
  refine wl_run 0 1 [0] hA rfl (L' := [(0, .int .i64 p0)]) (vs := []) (obl := []) (by kernel_rfl) trivial fun a35 hA36 => ?_
  refine wl_end ?_
  refine hK34 _ _ ?_
  refine c_seq mode_OfTables_c3 mode_OfTables_c4 (by kernel_rfl) fun K37 hK37 => ?_
  refine c_region mode_OfTables_c3o 7 (by kernel_rfl) (by kernel_rfl) ?_
  refine wl_run 0 1 [0, 3] hA36 rfl (L' := [(0, .int .i64 p0), (3, .int .i64 p0)]) (vs := []) (obl := []) (by kernel_rfl) trivial fun a38 hA39 => ?_
  obtain ⟨y40, hy40, h⟩ := bindS h
  refine wl_call 1 rfl (d := some 4) (g := 24) (args := #[.int .i64 p0]) hA39 (by kernel_rfl) Try.call24 (mode_is_ok n _ y40 w hy40) ?_
  rintro e w41 ⟨rfl, ex42⟩
  refine ⟨_, rfl, fun a43 hA44 => ?_⟩
  refine wl_run 2 1 [0, 5] hA44 rfl (L' := [(0, .int .i64 p0), (5, .bool y40)]) (vs := []) (obl := []) (by kernel_rfl) trivial fun a45 hA46 => ?_
  refine wl_cut 6 rfl rfl fun K47 hK47 => ?_
  have JK47 : ∀ (a53 : Act), Has a53 9 [(8, .bool (y40 && (p0 != 6)))] → K47 a53 w41 := by
    intro a53 hA54
    refine hK47 _ _ ?_
    refine wl_run 6 1 [2] hA54 rfl (L' := [(2, .bool (y40 && (p0 != 6)))]) (vs := []) (obl := []) (by kernel_rfl) trivial fun a56 hA57 => ?_
    refine wl_end ?_
    refine hK37 _ _ ?_
    refine c_ret (by kernel_rfl) ?_
    obtain rfl := someI h
    try simp only [Exit.then, Exit.inBlock]
    refine ret1 hA57 2 _ (by kernel_rfl) rfl rfl ?_
    exact ⟨rfl, ex42⟩
  cases hb58 : y40
  · have hA59 := Has.to (L' := [(0, .int .i64 p0), (5, .bool false)]) hA46 (by rw [hb58])
    refine wl_run 3 3 [8] hA59 rfl (L' := [(8, .bool false)]) (vs := []) (obl := []) (by kernel_rfl) trivial fun a61 hA62 => ?_
    refine wl_end ?_
    exact JK47 a61 (Has.to (Has.keep hA62 [8] rfl) (by rw [hb58]; rfl))
  · have hA63 := Has.to (L' := [(0, .int .i64 p0), (5, .bool true)]) hA46 (by rw [hb58])
    refine wl_run 3 3 [8] hA63 rfl (L' := [(8, .bool (p0 != 6))]) (vs := []) (obl := []) (by kernel_rfl) trivial fun a65 hA66 => ?_
    refine wl_end ?_
    exact JK47 a65 (Has.to (Has.keep hA66 [8] rfl) (by rw [hb58]; rfl))

/-! bursary mode.set -/
def mode_set_l2 (n : Nat) (p0 : (List Int)) : Nat → Int → Int → Option Int
  | 0, _, _ => none
  | m98 + 1, v93, v94 =>
    cond (decide (v94 < (p0.length : Int)))
      ((idx p0 v94).bind fun x107 =>
      (shlP .i64 1 x107).bind fun z111 =>
      mode_set_l2 n p0 m98 (orV .i64 v93 (shlV .i64 1 x107)) (IntKind.wrap .i64 (v94 + 1)))
      (some v93)
def mode_set (n : Nat) (p0 : (List Int)) : Option Int :=
  mode_set_l2 n p0 n 0 0
noncomputable def mode_set_c0 : Code := bodyOf Try.f29
noncomputable def mode_set_c1 : Code := seqL mode_set_c0
noncomputable def mode_set_c2 : Code := seqR mode_set_c0
noncomputable def mode_set_c1o : Array Oper := regO mode_set_c1
noncomputable def mode_set_c3 : Code := seqL mode_set_c2
noncomputable def mode_set_c4 : Code := seqR mode_set_c2
noncomputable def mode_set_c3o : Array Oper := regO mode_set_c3
noncomputable def mode_set_c5 : Code := seqL mode_set_c4
noncomputable def mode_set_c6 : Code := seqR mode_set_c4
noncomputable def mode_set_c7 : Code := seqL mode_set_c5
noncomputable def mode_set_c8 : Code := seqR mode_set_c5
noncomputable def mode_set_c7o : Array Oper := regO mode_set_c7
noncomputable def mode_set_c9 : Code := blkB mode_set_c8
noncomputable def mode_set_c10 : Code := loopB mode_set_c9
noncomputable def mode_set_c11 : Code := seqL mode_set_c10
noncomputable def mode_set_c12 : Code := seqR mode_set_c10
noncomputable def mode_set_c11o : Array Oper := regO mode_set_c11
noncomputable def mode_set_c13 : Code := seqL mode_set_c12
noncomputable def mode_set_c14 : Code := seqR mode_set_c12
noncomputable def mode_set_c15 : Code := condT mode_set_c13
noncomputable def mode_set_c16 : Code := condE mode_set_c13
noncomputable def mode_set_c17 : Code := seqL mode_set_c14
noncomputable def mode_set_c18 : Code := seqR mode_set_c14
noncomputable def mode_set_c19 : Code := blkB mode_set_c17
noncomputable def mode_set_c20 : Code := seqL mode_set_c19
noncomputable def mode_set_c21 : Code := seqR mode_set_c19
noncomputable def mode_set_c20o : Array Oper := regO mode_set_c20
noncomputable def mode_set_c21o : Array Oper := regO mode_set_c21
noncomputable def mode_set_c18o : Array Oper := regO mode_set_c18
noncomputable def mode_set_c22 : Code := seqL mode_set_c6
noncomputable def mode_set_c23 : Code := seqR mode_set_c6
noncomputable def mode_set_c22o : Array Oper := regO mode_set_c22
theorem mode_set_ok (n : Nat) (p0 : (List Int)) (r : Int) (w : World) {a0 : Option Addr} {c0 : Nat} (hr0 : RS (G := (Flat.toGoT flat_i64)) w a0 c0 p0) (h : mode_set n p0 = some r) :
    Calls Try.prog 29 #[.slice a0 p0.length c0] w fun e w' => e = .returned (.int .i64 r) ∧ Ext w w' := by
  unfold mode_set at h
  refine enter 18 Try.func29 rfl (by kernel_rfl) (by simp) fun a hA => ?_
  change mode_set_c0.wp _ _ _ _
  refine c_seq mode_set_c1 mode_set_c2 (by kernel_rfl) fun K60 hK60 => ?_
  refine c_region mode_set_c1o 1 (by kernel_rfl) (by kernel_rfl) ?_
  refine wl_run 0 1 [0] hA rfl (L' := [(0, .slice a0 p0.length c0)]) (vs := []) (obl := []) (by kernel_rfl) trivial fun a61 hA62 => ?_
  refine wl_end ?_
  refine hK60 _ _ ?_
  refine c_seq mode_set_c3 mode_set_c4 (by kernel_rfl) fun K63 hK63 => ?_
  refine c_region mode_set_c3o 1 (by kernel_rfl) (by kernel_rfl) ?_
  refine wl_run 0 1 [0, 3] hA62 rfl (L' := [(0, .slice a0 p0.length c0), (3, .int .i64 0)]) (vs := []) (obl := []) (by kernel_rfl) trivial fun a64 hA65 => ?_
  refine wl_end ?_
  refine hK63 _ _ ?_
  refine c_seq mode_set_c5 mode_set_c6 (by kernel_rfl) fun K66 hK66 => ?_
  refine c_seq mode_set_c7 mode_set_c8 (by kernel_rfl) fun K67 hK67 => ?_
  refine c_region mode_set_c7o 3 (by kernel_rfl) (by kernel_rfl) ?_
  refine wl_run 0 3 [3, 6, 7, 8] hA65 rfl (L' := [(3, .int .i64 0), (6, .slice a0 p0.length c0), (7, .int .i64 (p0.length : Int)), (8, .int .i64 0)]) (vs := []) (obl := []) (by kernel_rfl) trivial fun a68 hA69 => ?_
  refine wl_end ?_
  refine hK67 _ _ ?_
  refine c_block 0 mode_set_c9 (by kernel_rfl) ?_
  refine c_loop mode_set_c10 (by kernel_rfl) (fun m98 a96 w92 => ∃ (v93 : Int) (v94 : Int), mode_set_l2 n p0 m98 v93 v94 = some r ∧ Ext w w92 ∧ Has a96 18 [(3, .int .i64 v93), (6, .slice a0 p0.length c0), (7, .int .i64 (p0.length : Int)), (8, .int .i64 v94)]) n ⟨0, 0, h, (Ext.refl _), (Has.keep hA69 [3, 6, 7, 8] rfl)⟩ ?_
  rintro m98 a96 w92 ⟨v93, v94, h, ex95, hA97⟩ K99 hK99
  cases m98 with
  | zero => exact (noneS h).elim
  | succ m98 =>
    unfold mode_set_l2 at h
    refine c_seq mode_set_c11 mode_set_c12 (by kernel_rfl) fun K100 hK100 => ?_
    refine c_region mode_set_c11o 1 (by kernel_rfl) (by kernel_rfl) ?_
    refine wl_run 0 1 [3, 6, 7, 8, 9] hA97 rfl (L' := [(3, .int .i64 v93), (6, .slice a0 p0.length c0), (7, .int .i64 (p0.length : Int)), (8, .int .i64 v94), (9, .bool (decide (v94 < (p0.length : Int))))]) (vs := []) (obl := []) (by kernel_rfl) trivial fun a101 hA102 => ?_
    refine wl_end ?_
    refine hK100 _ _ ?_
    refine c_seq mode_set_c13 mode_set_c14 (by kernel_rfl) fun K103 hK103 => ?_
    refine c_cond mode_set_c15 mode_set_c16 (condX mode_set_c13) (decide (v94 < (p0.length : Int))) hA102 (by kernel_rfl) (by kernel_rfl) (by kernel_rfl) (fun hb104 => ?_) (fun hb104 => ?_)
    · replace h := ctrue hb104 h
      refine c_skip (by kernel_rfl) ?_
      refine hK103 _ _ ?_
      refine c_seq mode_set_c17 mode_set_c18 (by kernel_rfl) fun K105 hK105 => ?_
      refine c_block 1 mode_set_c19 (by kernel_rfl) ?_
      refine c_seq mode_set_c20 mode_set_c21 (by kernel_rfl) fun K106 hK106 => ?_
      refine c_region mode_set_c20o 3 (by kernel_rfl) (by kernel_rfl) ?_
      obtain ⟨x107, hx107, h⟩ := bindS h
      have hi108 := RS.fidx (F := flat_i64) (hr0.mono ex95) hx107
      refine wl_run 0 3 [3, 5, 6, 7, 8] hA102 rfl (L' := [(3, .int .i64 v93), (5, .int .i64 x107), (6, .slice a0 p0.length c0), (7, .int .i64 (p0.length : Int)), (8, .int .i64 v94)]) (vs := [[.int .i64 x107]]) (obl := [fun w => CellsAt w (Addr.add (baseOf a0) (Int.toNat v94 * 1)) [.int .i64 x107], fun _ => Inb a0 p0.length v94]) (by kernel_rfl) ⟨hi108.2, hi108.1, trivial⟩ fun a109 hA110 => ?_
      refine wl_end ?_
      refine hK106 _ _ ?_
      refine c_region mode_set_c21o 5 (by kernel_rfl) (by kernel_rfl) ?_
      obtain ⟨z111, hz111, h⟩ := bindS h
      obtain ⟨hz111p, hz111e⟩ := shlP_some hz111
      subst hz111e
      refine wl_run 0 5 [3, 6, 7, 8] hA110 rfl (L' := [(3, .int .i64 (orV .i64 v93 (shlV .i64 1 x107))), (6, .slice a0 p0.length c0), (7, .int .i64 (p0.length : Int)), (8, .int .i64 v94)]) (vs := []) (obl := [fun _ => 0 ≤ x107]) (by kernel_rfl) ⟨hz111p, trivial⟩ fun a112 hA113 => ?_
      refine wl_end ?_
      refine hK105 _ _ ?_
      refine c_region mode_set_c18o 2 (by kernel_rfl) (by kernel_rfl) ?_
      refine wl_run 0 2 [3, 6, 7, 8] hA113 rfl (L' := [(3, .int .i64 (orV .i64 v93 (shlV .i64 1 x107))), (6, .slice a0 p0.length c0), (7, .int .i64 (p0.length : Int)), (8, .int .i64 (IntKind.wrap .i64 (v94 + 1)))]) (vs := []) (obl := []) (by kernel_rfl) trivial fun a114 hA115 => ?_
      refine wl_end ?_
      exact hK99 m98 _ _ (Nat.lt_succ_self _) ⟨(orV .i64 v93 (shlV .i64 1 x107)), (IntKind.wrap .i64 (v94 + 1)), h, ex95, (Has.keep hA115 [3, 6, 7, 8] rfl)⟩
    · replace h := cfalse hb104 h
      refine c_exit 0 (by kernel_rfl) ?_
      refine hK66 _ _ ?_
      refine c_seq mode_set_c22 mode_set_c23 (by kernel_rfl) fun K116 hK116 => ?_
      refine c_region mode_set_c22o 2 (by kernel_rfl) (by kernel_rfl) ?_
      refine wl_run 0 2 [2] hA102 rfl (L' := [(2, .int .i64 v93)]) (vs := []) (obl := []) (by kernel_rfl) trivial fun a117 hA118 => ?_
      refine wl_end ?_
      refine hK116 _ _ ?_
      refine c_ret (by kernel_rfl) ?_
      obtain rfl := someI h
      try simp only [Exit.then, Exit.inBlock]
      refine ret1 hA118 2 _ (by kernel_rfl) rfl rfl ?_
      exact ⟨rfl, ex95⟩

/-! bursary mode.has -/
def mode_has (n : Nat) (p0 : Int) (p1 : Int) : Option Bool :=
  (shrP .i64 p0 p1).bind fun z12 =>
  some ((andV .i64 (shrV .i64 p0 p1) 1) == 1)
noncomputable def mode_has_c0 : Code := bodyOf Try.f25
noncomputable def mode_has_c1 : Code := seqL mode_has_c0
noncomputable def mode_has_c2 : Code := seqR mode_has_c0
noncomputable def mode_has_c1o : Array Oper := regO mode_has_c1
noncomputable def mode_has_c3 : Code := seqL mode_has_c2
noncomputable def mode_has_c4 : Code := seqR mode_has_c2
noncomputable def mode_has_c3o : Array Oper := regO mode_has_c3
theorem mode_has_ok (n : Nat) (p0 : Int) (p1 : Int) (r : Bool) (w : World)  (h : mode_has n p0 p1 = some r) :
    Calls Try.prog 25 #[.int .i64 p0, .int .i64 p1] w fun e w' => e = .returned (.bool r) ∧ Ext w w' := by
  unfold mode_has at h
  refine enter 10 Try.func25 rfl (by kernel_rfl) (by simp) fun a hA => ?_
  change mode_has_c0.wp _ _ _ _
  refine c_seq mode_has_c1 mode_has_c2 (by kernel_rfl) fun K8 hK8 => ?_
  refine c_region mode_has_c1o 1 (by kernel_rfl) (by kernel_rfl) ?_
  refine wl_run 0 1 [0, 1] hA rfl (L' := [(0, .int .i64 p0), (1, .int .i64 p1)]) (vs := []) (obl := []) (by kernel_rfl) trivial fun a9 hA10 => ?_
  refine wl_end ?_
  refine hK8 _ _ ?_
  refine c_seq mode_has_c3 mode_has_c4 (by kernel_rfl) fun K11 hK11 => ?_
  refine c_region mode_has_c3o 6 (by kernel_rfl) (by kernel_rfl) ?_
  obtain ⟨z12, hz12, h⟩ := bindS h
  obtain ⟨hz12p, hz12e⟩ := shrP_some hz12
  subst hz12e
  refine wl_run 0 6 [4] hA10 rfl (L' := [(4, .bool ((andV .i64 (shrV .i64 p0 p1) 1) == 1))]) (vs := []) (obl := [fun _ => 0 ≤ p1]) (by kernel_rfl) ⟨hz12p, trivial⟩ fun a13 hA14 => ?_
  refine wl_end ?_
  refine hK11 _ _ ?_
  refine c_ret (by kernel_rfl) ?_
  obtain rfl := someI h
  try simp only [Exit.then, Exit.inBlock]
  refine ret1 hA14 4 _ (by kernel_rfl) rfl rfl ?_
  exact ⟨rfl, (Ext.refl _)⟩

/-! bursary mode.OfKeys -/
def mode_OfKeys_j1 (n : Nat)  (p115 : Bool) : Option Bool :=
  some p115
def mode_OfKeys (n : Nat) (p0 : Int) : Option Bool :=
  (mode_is n p0).bind fun y80 =>
  (cond y80
  ((mode_set n ([0, 3, 5, 6] : List Int)).bind fun y133 =>
  (mode_has n y133 p0).bind fun y140 =>
  some y140)
  (some false)).bind fun p115 =>
  mode_OfKeys_j1 n p115
noncomputable def mode_OfKeys_c0 : Code := bodyOf Try.f20
noncomputable def mode_OfKeys_c1 : Code := seqL mode_OfKeys_c0
noncomputable def mode_OfKeys_c2 : Code := seqR mode_OfKeys_c0
noncomputable def mode_OfKeys_c1o : Array Oper := regO mode_OfKeys_c1
noncomputable def mode_OfKeys_c3 : Code := seqL mode_OfKeys_c2
noncomputable def mode_OfKeys_c4 : Code := seqR mode_OfKeys_c2
noncomputable def mode_OfKeys_c3o : Array Oper := regO mode_OfKeys_c3
theorem mode_OfKeys_ok (n : Nat) (p0 : Int) (r : Bool) (w : World)  (h : mode_OfKeys n p0 = some r) :
    Calls Try.prog 20 #[.int .i64 p0] w fun e w' => e = .returned (.bool r) ∧ Ext w w' := by
  unfold mode_OfKeys at h
  refine enter 11 Try.func20 rfl (by kernel_rfl) (by simp) fun a hA => ?_
  change mode_OfKeys_c0.wp _ _ _ _
  refine c_seq mode_OfKeys_c1 mode_OfKeys_c2 (by kernel_rfl) fun K74 hK74 => ?_
  refine c_region mode_OfKeys_c1o 1 (by kernel_rfl) (by kernel_rfl) ?_
  refine wl_run 0 1 [0] hA rfl (L' := [(0, .int .i64 p0)]) (vs := []) (obl := []) (by kernel_rfl) trivial fun a75 hA76 => ?_
  refine wl_end ?_
  refine hK74 _ _ ?_
  refine c_seq mode_OfKeys_c3 mode_OfKeys_c4 (by kernel_rfl) fun K77 hK77 => ?_
  refine c_region mode_OfKeys_c3o 9 (by kernel_rfl) (by kernel_rfl) ?_
  refine wl_run 0 1 [0, 3] hA76 rfl (L' := [(0, .int .i64 p0), (3, .int .i64 p0)]) (vs := []) (obl := []) (by kernel_rfl) trivial fun a78 hA79 => ?_
  obtain ⟨y80, hy80, h⟩ := bindS h
  refine wl_call 1 rfl (d := some 4) (g := 24) (args := #[.int .i64 p0]) hA79 (by kernel_rfl) Try.call24 (mode_is_ok n _ y80 w hy80) ?_
  rintro e w81 ⟨rfl, ex82⟩
  refine ⟨_, rfl, fun a83 hA84 => ?_⟩
  refine wl_run 2 1 [0, 5] hA84 rfl (L' := [(0, .int .i64 p0), (5, .bool y80)]) (vs := []) (obl := []) (by kernel_rfl) trivial fun a85 hA86 => ?_
  refine wl_cut 8 rfl rfl fun K87 hK87 => ?_
  have JK87 : ∀ (p115 : Bool) (a112 : Act) (w111 : World), Ext w81 w111 → Has a112 11 [(10, .bool p115)] → mode_OfKeys_j1 n p115 = some r → K87 a112 w111 := by
    intro p115 a112 w111 ex114 hA113 h
    unfold mode_OfKeys_j1 at h
    refine hK87 _ _ ?_
    refine wl_run 8 1 [2] hA113 rfl (L' := [(2, .bool p115)]) (vs := []) (obl := []) (by kernel_rfl) trivial fun a116 hA117 => ?_
    refine wl_end ?_
    refine hK77 _ _ ?_
    refine c_ret (by kernel_rfl) ?_
    obtain rfl := someI h
    try simp only [Exit.then, Exit.inBlock]
    refine ret1 hA117 2 _ (by kernel_rfl) rfl rfl ?_
    exact ⟨rfl, (Ext.trans ex82 ex114)⟩
  obtain ⟨p115, hv119, h⟩ := bindS h
  cases hb118 : y80
  · have hA120 := Has.to (L' := [(0, .int .i64 p0), (5, .bool false)]) hA86 (by rw [hb118])
    replace hv119 := cfalse hb118 hv119
    have hk121 := h
    clear h
    have h := hv119
    refine wl_run 3 5 [10] hA120 rfl (L' := [(10, .bool false)]) (vs := []) (obl := []) (by kernel_rfl) trivial fun a122 hA123 => ?_
    refine wl_end ?_
    obtain rfl := someI h
    exact JK87 _ a122 w81 (Ext.refl _) (Has.keep hA123 [10] rfl) hk121
  · have hA124 := Has.to (L' := [(0, .int .i64 p0), (5, .bool true)]) hA86 (by rw [hb118])
    replace hv119 := ctrue hb118 hv119
    have hk125 := h
    clear h
    have h := hv119
    refine wl_new 3 rfl hA124 (d := 6) (m := (some 4)) (cs := [.int .i64 0, .int .i64 3, .int .i64 5, .int .i64 6]) (T := 3) (by kernel_rfl) rfl fun b126 a129 w128 nb127 hA130 => ?_
    have ex131 := NewB.ext nb127
    have hr132 : RS (G := (Flat.toGoT flat_i64)) w128 (some ⟨b126, 0, none⟩) 4 ([0, 3, 5, 6] : List Int) := RS.ofCells (F := flat_i64) (Own.cells (NewB.own nb127)) (Nat.le_refl _)
    obtain ⟨y133, hy133, h⟩ := bindS h
    refine wl_call 4 rfl (d := some 7) (g := 29) (args := #[.slice (some ⟨b126, 0, none⟩) ([0, 3, 5, 6] : List Int).length 4]) hA130 (by kernel_rfl) Try.call29 (mode_set_ok n _ y133 w128 hr132 hy133) ?_
    rintro e w134 ⟨rfl, ex135⟩
    refine ⟨_, rfl, fun a136 hA137 => ?_⟩
    refine wl_run 5 1 [5, 7, 8] hA137 rfl (L' := [(5, .bool true), (7, .int .i64 y133), (8, .int .i64 p0)]) (vs := []) (obl := []) (by kernel_rfl) trivial fun a138 hA139 => ?_
    obtain ⟨y140, hy140, h⟩ := bindS h
    refine wl_call 6 rfl (d := some 9) (g := 25) (args := #[.int .i64 y133, .int .i64 p0]) hA139 (by kernel_rfl) Try.call25 (mode_has_ok n _ _ y140 w134 hy140) ?_
    rintro e w141 ⟨rfl, ex142⟩
    refine ⟨_, rfl, fun a143 hA144 => ?_⟩
    refine wl_run 7 1 [10] hA144 rfl (L' := [(10, .bool y140)]) (vs := []) (obl := []) (by kernel_rfl) trivial fun a145 hA146 => ?_
    refine wl_end ?_
    obtain rfl := someI h
    exact JK87 _ a145 w141 (Ext.trans (Ext.trans ex131 ex135) ex142) (Has.keep hA146 [10] rfl) hk125

/-! bursary mode.covers -/
def mode_covers (n : Nat) (p0 : Int) : Option Int :=
  (mode_set n ([0] : List Int)).bind fun y117 =>
  (mode_set n ([0, 1] : List Int)).bind fun y129 =>
  (mode_set n ([0, 1, 2] : List Int)).bind fun y141 =>
  (mode_set n ([0, 1, 3] : List Int)).bind fun y153 =>
  (mode_set n ([0, 1, 2, 3, 4] : List Int)).bind fun y165 =>
  (mode_set n ([0, 1, 2, 3, 4, 5, 6] : List Int)).bind fun y177 =>
  (mode_set n ([0, 6] : List Int)).bind fun y189 =>
  (idx ([y117, y129, y141, y153, y165, y177, y189] : List Int) p0).bind fun x207 =>
  some x207
noncomputable def mode_covers_c0 : Code := bodyOf Try.f28
noncomputable def mode_covers_c1 : Code := seqL mode_covers_c0
noncomputable def mode_covers_c2 : Code := seqR mode_covers_c0
noncomputable def mode_covers_c1o : Array Oper := regO mode_covers_c1
noncomputable def mode_covers_c3 : Code := seqL mode_covers_c2
noncomputable def mode_covers_c4 : Code := seqR mode_covers_c2
noncomputable def mode_covers_c3o : Array Oper := regO mode_covers_c3
noncomputable def mode_covers_c5 : Code := seqL mode_covers_c4
noncomputable def mode_covers_c6 : Code := seqR mode_covers_c4
noncomputable def mode_covers_c5o : Array Oper := regO mode_covers_c5
theorem mode_covers_ok (n : Nat) (p0 : Int) (r : Int) (w : World)  (h : mode_covers n p0 = some r) :
    Calls Try.prog 28 #[.int .i64 p0] w fun e w' => e = .returned (.int .i64 r) ∧ Ext w w' := by
  unfold mode_covers at h
  refine enter 22 Try.func28 rfl (by kernel_rfl) (by simp) fun a hA => ?_
  change mode_covers_c0.wp _ _ _ _
  refine c_seq mode_covers_c1 mode_covers_c2 (by kernel_rfl) fun K106 hK106 => ?_
  refine c_region mode_covers_c1o 1 (by kernel_rfl) (by kernel_rfl) ?_
  refine wl_run 0 1 [0] hA rfl (L' := [(0, .int .i64 p0)]) (vs := []) (obl := []) (by kernel_rfl) trivial fun a107 hA108 => ?_
  refine wl_end ?_
  refine hK106 _ _ ?_
  refine c_seq mode_covers_c3 mode_covers_c4 (by kernel_rfl) fun K109 hK109 => ?_
  refine c_region mode_covers_c3o 17 (by kernel_rfl) (by kernel_rfl) ?_
  refine wl_new 0 rfl hA108 (d := 4) (m := (some 1)) (cs := [.int .i64 0]) (T := 3) (by kernel_rfl) rfl fun b110 a113 w112 nb111 hA114 => ?_
  have ex115 := NewB.ext nb111
  have hr116 : RS (G := (Flat.toGoT flat_i64)) w112 (some ⟨b110, 0, none⟩) 1 ([0] : List Int) := RS.ofCells (F := flat_i64) (Own.cells (NewB.own nb111)) (Nat.le_refl _)
  obtain ⟨y117, hy117, h⟩ := bindS h
  refine wl_call 1 rfl (d := some 5) (g := 29) (args := #[.slice (some ⟨b110, 0, none⟩) ([0] : List Int).length 1]) hA114 (by kernel_rfl) Try.call29 (mode_set_ok n _ y117 w112 hr116 hy117) ?_
  rintro e w118 ⟨rfl, ex119⟩
  refine ⟨_, rfl, fun a120 hA121 => ?_⟩
  refine wl_new 2 rfl hA121 (d := 6) (m := (some 2)) (cs := [.int .i64 0, .int .i64 1]) (T := 3) (by kernel_rfl) rfl fun b122 a125 w124 nb123 hA126 => ?_
  have ex127 := NewB.ext nb123
  have hr128 : RS (G := (Flat.toGoT flat_i64)) w124 (some ⟨b122, 0, none⟩) 2 ([0, 1] : List Int) := RS.ofCells (F := flat_i64) (Own.cells (NewB.own nb123)) (Nat.le_refl _)
  obtain ⟨y129, hy129, h⟩ := bindS h
  refine wl_call 3 rfl (d := some 7) (g := 29) (args := #[.slice (some ⟨b122, 0, none⟩) ([0, 1] : List Int).length 2]) hA126 (by kernel_rfl) Try.call29 (mode_set_ok n _ y129 w124 hr128 hy129) ?_
  rintro e w130 ⟨rfl, ex131⟩
  refine ⟨_, rfl, fun a132 hA133 => ?_⟩
  refine wl_new 4 rfl hA133 (d := 8) (m := (some 3)) (cs := [.int .i64 0, .int .i64 1, .int .i64 2]) (T := 3) (by kernel_rfl) rfl fun b134 a137 w136 nb135 hA138 => ?_
  have ex139 := NewB.ext nb135
  have hr140 : RS (G := (Flat.toGoT flat_i64)) w136 (some ⟨b134, 0, none⟩) 3 ([0, 1, 2] : List Int) := RS.ofCells (F := flat_i64) (Own.cells (NewB.own nb135)) (Nat.le_refl _)
  obtain ⟨y141, hy141, h⟩ := bindS h
  refine wl_call 5 rfl (d := some 9) (g := 29) (args := #[.slice (some ⟨b134, 0, none⟩) ([0, 1, 2] : List Int).length 3]) hA138 (by kernel_rfl) Try.call29 (mode_set_ok n _ y141 w136 hr140 hy141) ?_
  rintro e w142 ⟨rfl, ex143⟩
  refine ⟨_, rfl, fun a144 hA145 => ?_⟩
  refine wl_new 6 rfl hA145 (d := 10) (m := (some 3)) (cs := [.int .i64 0, .int .i64 1, .int .i64 3]) (T := 3) (by kernel_rfl) rfl fun b146 a149 w148 nb147 hA150 => ?_
  have ex151 := NewB.ext nb147
  have hr152 : RS (G := (Flat.toGoT flat_i64)) w148 (some ⟨b146, 0, none⟩) 3 ([0, 1, 3] : List Int) := RS.ofCells (F := flat_i64) (Own.cells (NewB.own nb147)) (Nat.le_refl _)
  obtain ⟨y153, hy153, h⟩ := bindS h
  refine wl_call 7 rfl (d := some 11) (g := 29) (args := #[.slice (some ⟨b146, 0, none⟩) ([0, 1, 3] : List Int).length 3]) hA150 (by kernel_rfl) Try.call29 (mode_set_ok n _ y153 w148 hr152 hy153) ?_
  rintro e w154 ⟨rfl, ex155⟩
  refine ⟨_, rfl, fun a156 hA157 => ?_⟩
  refine wl_new 8 rfl hA157 (d := 12) (m := (some 5)) (cs := [.int .i64 0, .int .i64 1, .int .i64 2, .int .i64 3, .int .i64 4]) (T := 3) (by kernel_rfl) rfl fun b158 a161 w160 nb159 hA162 => ?_
  have ex163 := NewB.ext nb159
  have hr164 : RS (G := (Flat.toGoT flat_i64)) w160 (some ⟨b158, 0, none⟩) 5 ([0, 1, 2, 3, 4] : List Int) := RS.ofCells (F := flat_i64) (Own.cells (NewB.own nb159)) (Nat.le_refl _)
  obtain ⟨y165, hy165, h⟩ := bindS h
  refine wl_call 9 rfl (d := some 13) (g := 29) (args := #[.slice (some ⟨b158, 0, none⟩) ([0, 1, 2, 3, 4] : List Int).length 5]) hA162 (by kernel_rfl) Try.call29 (mode_set_ok n _ y165 w160 hr164 hy165) ?_
  rintro e w166 ⟨rfl, ex167⟩
  refine ⟨_, rfl, fun a168 hA169 => ?_⟩
  refine wl_new 10 rfl hA169 (d := 14) (m := (some 7)) (cs := [.int .i64 0, .int .i64 1, .int .i64 2, .int .i64 3, .int .i64 4, .int .i64 5, .int .i64 6]) (T := 3) (by kernel_rfl) rfl fun b170 a173 w172 nb171 hA174 => ?_
  have ex175 := NewB.ext nb171
  have hr176 : RS (G := (Flat.toGoT flat_i64)) w172 (some ⟨b170, 0, none⟩) 7 ([0, 1, 2, 3, 4, 5, 6] : List Int) := RS.ofCells (F := flat_i64) (Own.cells (NewB.own nb171)) (Nat.le_refl _)
  obtain ⟨y177, hy177, h⟩ := bindS h
  refine wl_call 11 rfl (d := some 15) (g := 29) (args := #[.slice (some ⟨b170, 0, none⟩) ([0, 1, 2, 3, 4, 5, 6] : List Int).length 7]) hA174 (by kernel_rfl) Try.call29 (mode_set_ok n _ y177 w172 hr176 hy177) ?_
  rintro e w178 ⟨rfl, ex179⟩
  refine ⟨_, rfl, fun a180 hA181 => ?_⟩
  refine wl_new 12 rfl hA181 (d := 16) (m := (some 2)) (cs := [.int .i64 0, .int .i64 6]) (T := 3) (by kernel_rfl) rfl fun b182 a185 w184 nb183 hA186 => ?_
  have ex187 := NewB.ext nb183
  have hr188 : RS (G := (Flat.toGoT flat_i64)) w184 (some ⟨b182, 0, none⟩) 2 ([0, 6] : List Int) := RS.ofCells (F := flat_i64) (Own.cells (NewB.own nb183)) (Nat.le_refl _)
  obtain ⟨y189, hy189, h⟩ := bindS h
  refine wl_call 13 rfl (d := some 17) (g := 29) (args := #[.slice (some ⟨b182, 0, none⟩) ([0, 6] : List Int).length 2]) hA186 (by kernel_rfl) Try.call29 (mode_set_ok n _ y189 w184 hr188 hy189) ?_
  rintro e w190 ⟨rfl, ex191⟩
  refine ⟨_, rfl, fun a192 hA193 => ?_⟩
  refine wl_run 14 1 [0, 18] hA193 rfl (L' := [(0, .int .i64 p0), (18, .agg #[.int .i64 y117, .int .i64 y129, .int .i64 y141, .int .i64 y153, .int .i64 y165, .int .i64 y177, .int .i64 y189])]) (vs := []) (obl := []) (by kernel_rfl) trivial fun a194 hA195 => ?_
  refine wl_new 15 rfl hA195 (d := 3) (m := none) (cs := [.int .i64 0, .int .i64 0, .int .i64 0, .int .i64 0, .int .i64 0, .int .i64 0, .int .i64 0]) (T := 40) (by kernel_rfl) rfl fun b196 a199 w198 nb197 hA200 => ?_
  have ex201 := NewB.ext nb197
  refine wl_store 16 rfl (A := (⟨b196, 0, none⟩ : Addr)) (vs := [.int .i64 y117, .int .i64 y129, .int .i64 y141, .int .i64 y153, .int .i64 y165, .int .i64 y177, .int .i64 y189]) (cs := [.int .i64 0, .int .i64 0, .int .i64 0, .int .i64 0, .int .i64 0, .int .i64 0, .int .i64 0]) (cs' := [.int .i64 y117, .int .i64 y129, .int .i64 y141, .int .i64 y153, .int .i64 y165, .int .i64 y177, .int .i64 y189]) b196 0 hA200 (by kernel_rfl) (by kernel_rfl) (NewB.own nb197) (Nat.le_of_ble_eq_true rfl) (oneAll (by kernel_rfl)) (by kernel_rfl) fun w202 m203 ho204 hs205 => ?_
  refine wl_end ?_
  refine hK109 _ _ ?_
  refine c_seq mode_covers_c5 mode_covers_c6 (by kernel_rfl) fun K206 hK206 => ?_
  refine c_region mode_covers_c5o 4 (by kernel_rfl) (by kernel_rfl) ?_
  obtain ⟨x207, hx207, h⟩ := bindS h
  have hi208 := RS.fidx (F := flat_i64) (RS.ofCells (F := flat_i64) (c := 7) (l := [y117, y129, y141, y153, y165, y177, y189]) (A := (⟨b196, 0, none⟩ : Addr)) (Own.cells ho204) (Nat.le_refl _)) hx207
  refine wl_run 0 4 [2] hA200 rfl (L' := [(2, .int .i64 x207)]) (vs := [[.int .i64 x207]]) (obl := [fun w => CellsAt w (Addr.add (⟨b196, 0, none⟩ : Addr) (Int.toNat p0 * 1)) [.int .i64 x207], fun _ => 0 ≤ p0 ∧ p0 < (7 : Int)]) (by kernel_rfl) ⟨hi208.2, ⟨hi208.1.1, hi208.1.2.1⟩, trivial⟩ fun a209 hA210 => ?_
  refine wl_end ?_
  refine hK206 _ _ ?_
  refine c_ret (by kernel_rfl) ?_
  obtain rfl := someI h
  try simp only [Exit.then, Exit.inBlock]
  refine ret1 hA210 2 _ (by kernel_rfl) rfl rfl ?_
  exact ⟨rfl, (Ext.mut (Ext.trans (Ext.trans (Ext.trans (Ext.trans (Ext.trans (Ext.trans (Ext.trans (Ext.trans (Ext.trans (Ext.trans (Ext.trans (Ext.trans (Ext.trans (Ext.trans ex115 ex119) ex127) ex131) ex139) ex143) ex151) ex155) ex163) ex167) ex175) ex179) ex187) ex191) ex201) m203 (Nat.le_trans (Ext.size (Ext.trans (Ext.trans (Ext.trans (Ext.trans (Ext.trans (Ext.trans (Ext.trans (Ext.trans (Ext.trans (Ext.trans (Ext.trans (Ext.trans (Ext.trans ex115 ex119) ex127) ex131) ex139) ex143) ex151) ex155) ex163) ex167) ex175) ex179) ex187) ex191)) (NewB.ge nb197)))⟩

/-! bursary mode.Covers -/
def mode_Covers_j1 (n : Nat)  (p155 : Bool) : Option Bool :=
  some p155
def mode_Covers_j2 (n : Nat) (p0 : Int) (p1 : Int) (p129 : Bool) : Option Bool :=
  (cond p129
  ((mode_covers n p0).bind fun y168 =>
  (mode_has n y168 p1).bind fun y175 =>
  some y175)
  (some false)).bind fun p155 =>
  mode_Covers_j1 n p155
def mode_Covers (n : Nat) (p0 : Int) (p1 : Int) : Option Bool :=
  (mode_is n p0).bind fun y106 =>
  (cond y106
  ((mode_is n p1).bind fun y192 =>
  some y192)
  (some false)).bind fun p129 =>
  mode_Covers_j2 n p0 p1 p129
noncomputable def mode_Covers_c0 : Code := bodyOf Try.f12
noncomputable def mode_Covers_c1 : Code := seqL mode_Covers_c0
noncomputable def mode_Covers_c2 : Code := seqR mode_Covers_c0
noncomputable def mode_Covers_c1o : Array Oper := regO mode_Covers_c1
noncomputable def mode_Covers_c3 : Code := seqL mode_Covers_c2
noncomputable def mode_Covers_c4 : Code := seqR mode_Covers_c2
noncomputable def mode_Covers_c3o : Array Oper := regO mode_Covers_c3
theorem mode_Covers_ok (n : Nat) (p0 : Int) (p1 : Int) (r : Bool) (w : World)  (h : mode_Covers n p0 p1 = some r) :
    Calls Try.prog 12 #[.int .i64 p0, .int .i64 p1] w fun e w' => e = .returned (.bool r) ∧ Ext w w' := by
  unfold mode_Covers at h
  refine enter 17 Try.func12 rfl (by kernel_rfl) (by simp) fun a hA => ?_
  change mode_Covers_c0.wp _ _ _ _
  refine c_seq mode_Covers_c1 mode_Covers_c2 (by kernel_rfl) fun K100 hK100 => ?_
  refine c_region mode_Covers_c1o 1 (by kernel_rfl) (by kernel_rfl) ?_
  refine wl_run 0 1 [0, 1] hA rfl (L' := [(0, .int .i64 p0), (1, .int .i64 p1)]) (vs := []) (obl := []) (by kernel_rfl) trivial fun a101 hA102 => ?_
  refine wl_end ?_
  refine hK100 _ _ ?_
  refine c_seq mode_Covers_c3 mode_Covers_c4 (by kernel_rfl) fun K103 hK103 => ?_
  refine c_region mode_Covers_c3o 13 (by kernel_rfl) (by kernel_rfl) ?_
  refine wl_run 0 1 [0, 1, 5] hA102 rfl (L' := [(0, .int .i64 p0), (1, .int .i64 p1), (5, .int .i64 p0)]) (vs := []) (obl := []) (by kernel_rfl) trivial fun a104 hA105 => ?_
  obtain ⟨y106, hy106, h⟩ := bindS h
  refine wl_call 1 rfl (d := some 6) (g := 24) (args := #[.int .i64 p0]) hA105 (by kernel_rfl) Try.call24 (mode_is_ok n _ y106 w hy106) ?_
  rintro e w107 ⟨rfl, ex108⟩
  refine ⟨_, rfl, fun a109 hA110 => ?_⟩
  refine wl_run 2 1 [0, 1, 7] hA110 rfl (L' := [(0, .int .i64 p0), (1, .int .i64 p1), (7, .bool y106)]) (vs := []) (obl := []) (by kernel_rfl) trivial fun a111 hA112 => ?_
  refine wl_cut 6 rfl rfl fun K113 hK113 => ?_
  have JK113 : ∀ (p129 : Bool) (a126 : Act) (w125 : World), Ext w107 w125 → Has a126 17 [(0, .int .i64 p0), (1, .int .i64 p1), (10, .bool p129)] → mode_Covers_j2 n p0 p1 p129 = some r → K113 a126 w125 := by
    intro p129 a126 w125 ex128 hA127 h
    unfold mode_Covers_j2 at h
    refine hK113 _ _ ?_
    refine wl_run 6 1 [0, 1, 11] hA127 rfl (L' := [(0, .int .i64 p0), (1, .int .i64 p1), (11, .bool p129)]) (vs := []) (obl := []) (by kernel_rfl) trivial fun a130 hA131 => ?_
    refine wl_cut 12 rfl rfl fun K132 hK132 => ?_
    have JK132 : ∀ (p155 : Bool) (a152 : Act) (w151 : World), Ext w125 w151 → Has a152 17 [(16, .bool p155)] → mode_Covers_j1 n p155 = some r → K132 a152 w151 := by
      intro p155 a152 w151 ex154 hA153 h
      unfold mode_Covers_j1 at h
      refine hK132 _ _ ?_
      refine wl_run 12 1 [4] hA153 rfl (L' := [(4, .bool p155)]) (vs := []) (obl := []) (by kernel_rfl) trivial fun a156 hA157 => ?_
      refine wl_end ?_
      refine hK103 _ _ ?_
      refine c_ret (by kernel_rfl) ?_
      obtain rfl := someI h
      try simp only [Exit.then, Exit.inBlock]
      refine ret1 hA157 4 _ (by kernel_rfl) rfl rfl ?_
      exact ⟨rfl, (Ext.trans (Ext.trans ex108 ex128) ex154)⟩
    obtain ⟨p155, hv159, h⟩ := bindS h
    cases hb158 : p129
    · have hA160 := Has.to (L' := [(0, .int .i64 p0), (1, .int .i64 p1), (11, .bool false)]) hA131 (by rw [hb158])
      replace hv159 := cfalse hb158 hv159
      have hk161 := h
      clear h
      have h := hv159
      refine wl_run 7 5 [16] hA160 rfl (L' := [(16, .bool false)]) (vs := []) (obl := []) (by kernel_rfl) trivial fun a162 hA163 => ?_
      refine wl_end ?_
      obtain rfl := someI h
      exact JK132 _ a162 w125 (Ext.refl _) (Has.keep hA163 [16] rfl) hk161
    · have hA164 := Has.to (L' := [(0, .int .i64 p0), (1, .int .i64 p1), (11, .bool true)]) hA131 (by rw [hb158])
      replace hv159 := ctrue hb158 hv159
      have hk165 := h
      clear h
      have h := hv159
      refine wl_run 7 1 [1, 11, 12] hA164 rfl (L' := [(1, .int .i64 p1), (11, .bool true), (12, .int .i64 p0)]) (vs := []) (obl := []) (by kernel_rfl) trivial fun a166 hA167 => ?_
      obtain ⟨y168, hy168, h⟩ := bindS h
      refine wl_call 8 rfl (d := some 13) (g := 28) (args := #[.int .i64 p0]) hA167 (by kernel_rfl) Try.call28 (mode_covers_ok n _ y168 w125 hy168) ?_
      rintro e w169 ⟨rfl, ex170⟩
      refine ⟨_, rfl, fun a171 hA172 => ?_⟩
      refine wl_run 9 1 [11, 13, 14] hA172 rfl (L' := [(11, .bool true), (13, .int .i64 y168), (14, .int .i64 p1)]) (vs := []) (obl := []) (by kernel_rfl) trivial fun a173 hA174 => ?_
      obtain ⟨y175, hy175, h⟩ := bindS h
      refine wl_call 10 rfl (d := some 15) (g := 25) (args := #[.int .i64 y168, .int .i64 p1]) hA174 (by kernel_rfl) Try.call25 (mode_has_ok n _ _ y175 w169 hy175) ?_
      rintro e w176 ⟨rfl, ex177⟩
      refine ⟨_, rfl, fun a178 hA179 => ?_⟩
      refine wl_run 11 1 [16] hA179 rfl (L' := [(16, .bool y175)]) (vs := []) (obl := []) (by kernel_rfl) trivial fun a180 hA181 => ?_
      refine wl_end ?_
      obtain rfl := someI h
      exact JK132 _ a180 w176 (Ext.trans ex170 ex177) (Has.keep hA181 [16] rfl) hk165
  obtain ⟨p129, hv183, h⟩ := bindS h
  cases hb182 : y106
  · have hA184 := Has.to (L' := [(0, .int .i64 p0), (1, .int .i64 p1), (7, .bool false)]) hA112 (by rw [hb182])
    replace hv183 := cfalse hb182 hv183
    have hk185 := h
    clear h
    have h := hv183
    refine wl_run 3 3 [0, 1, 10] hA184 rfl (L' := [(0, .int .i64 p0), (1, .int .i64 p1), (10, .bool false)]) (vs := []) (obl := []) (by kernel_rfl) trivial fun a186 hA187 => ?_
    refine wl_end ?_
    obtain rfl := someI h
    exact JK113 _ a186 w107 (Ext.refl _) (Has.keep hA187 [0, 1, 10] rfl) hk185
  · have hA188 := Has.to (L' := [(0, .int .i64 p0), (1, .int .i64 p1), (7, .bool true)]) hA112 (by rw [hb182])
    replace hv183 := ctrue hb182 hv183
    have hk189 := h
    clear h
    have h := hv183
    refine wl_run 3 1 [0, 1, 7, 8] hA188 rfl (L' := [(0, .int .i64 p0), (1, .int .i64 p1), (7, .bool true), (8, .int .i64 p1)]) (vs := []) (obl := []) (by kernel_rfl) trivial fun a190 hA191 => ?_
    obtain ⟨y192, hy192, h⟩ := bindS h
    refine wl_call 4 rfl (d := some 9) (g := 24) (args := #[.int .i64 p1]) hA191 (by kernel_rfl) Try.call24 (mode_is_ok n _ y192 w107 hy192) ?_
    rintro e w193 ⟨rfl, ex194⟩
    refine ⟨_, rfl, fun a195 hA196 => ?_⟩
    refine wl_run 5 1 [0, 1, 10] hA196 rfl (L' := [(0, .int .i64 p0), (1, .int .i64 p1), (10, .bool y192)]) (vs := []) (obl := []) (by kernel_rfl) trivial fun a197 hA198 => ?_
    refine wl_end ?_
    obtain rfl := someI h
    exact JK113 _ a197 w193 ex194 (Has.keep hA198 [0, 1, 10] rfl) hk189

/-! bursary mode.Sup -/
def mode_Sup_j1 (n : Nat) (v926 : Int) (k_mode_Sup_l2 : (Int → Int → Option (Int × Int))) (v1025 : Int) : Option (Int × Int) :=
  k_mode_Sup_l2 v1025 (IntKind.wrap .i64 (v926 + 1))
def mode_Sup_j2 (n : Nat) (v925 : Int) (v926 : Int) (k_mode_Sup_l2 : (Int → Int → Option (Int × Int))) (p1079 : Bool) : Option (Int × Int) :=
  cond p1079
    (mode_Sup_j1 n v926 (k_mode_Sup_l2) v926)
    (mode_Sup_j1 n v926 (k_mode_Sup_l2) v925)
def mode_Sup_j3 (n : Nat) (v925 : Int) (v926 : Int) (k_mode_Sup_l2 : (Int → Int → Option (Int × Int))) (p1060 : Bool) : Option (Int × Int) :=
  (cond p1060
  ((mode_Covers n v925 v926).bind fun y1093 =>
  some y1093)
  (some false)).bind fun p1079 =>
  mode_Sup_j2 n v925 v926 (k_mode_Sup_l2) p1079
def mode_Sup_l2 (n : Nat) (p0 : Int) (p1 : Int) : Nat → Int → Int → Option (Int × Int)
  | 0, _, _ => none
  | m930 + 1, v925, v926 =>
    cond (decide (v926 < 7))
      ((mode_Covers n v926 p0).bind fun y1037 =>
      (cond y1037
  ((mode_Covers n v926 p1).bind fun y1110 =>
  some y1110)
  (some false)).bind fun p1060 =>
      mode_Sup_j3 n v925 v926 (mode_Sup_l2 n p0 p1 m930) p1060)
      (some (v925, 0))
def mode_Sup_j4 (n : Nat) (p0 : Int) (p1 : Int) (p721 : Bool) : Option (Int × Int) :=
  cond p721
    (some (0, 2))
    (mode_Sup_l2 n p0 p1 n 5 0)
def mode_Sup_j5 (n : Nat)  (p1153 : Bool) : Option Bool :=
  some (!p1153)
def mode_Sup_j6 (n : Nat) (p0 : Int) (p1 : Int) (p666 : Bool) : Option (Int × Int) :=
  (cond (!p666)
  ((mode_OfKeys n p0).bind fun y1130 =>
  (cond y1130
  ((mode_OfKeys n p1).bind fun y1166 =>
  some y1166)
  (some false)).bind fun p1153 =>
  mode_Sup_j5 n p1153)
  (some false)).bind fun p721 =>
  mode_Sup_j4 n p0 p1 p721
def mode_Sup_j7 (n : Nat) (p0 : Int) (p1 : Int) (p634 : Bool) : Option (Int × Int) :=
  cond p634
    (some (0, 170))
    ((mode_OfTables n p0).bind fun y643 =>
    (cond y643
  ((mode_OfTables n p1).bind fun y1183 =>
  some y1183)
  (some false)).bind fun p666 =>
    mode_Sup_j6 n p0 p1 p666)
def mode_Sup (n : Nat) (p0 : Int) (p1 : Int) : Option (Int × Int) :=
  (mode_is n p0).bind fun y611 =>
  (cond (!y611)
  (some true)
  ((mode_is n p1).bind fun y1196 =>
  some (!y1196))).bind fun p634 =>
  mode_Sup_j7 n p0 p1 p634
noncomputable def mode_Sup_c0 : Code := bodyOf Try.f9
noncomputable def mode_Sup_c1 : Code := seqL mode_Sup_c0
noncomputable def mode_Sup_c2 : Code := seqR mode_Sup_c0
noncomputable def mode_Sup_c1o : Array Oper := regO mode_Sup_c1
noncomputable def mode_Sup_c3 : Code := seqL mode_Sup_c2
noncomputable def mode_Sup_c4 : Code := seqR mode_Sup_c2
noncomputable def mode_Sup_c5 : Code := seqL mode_Sup_c3
noncomputable def mode_Sup_c6 : Code := seqR mode_Sup_c3
noncomputable def mode_Sup_c5o : Array Oper := regO mode_Sup_c5
noncomputable def mode_Sup_c7 : Code := condT mode_Sup_c6
noncomputable def mode_Sup_c8 : Code := condE mode_Sup_c6
noncomputable def mode_Sup_c9 : Code := seqL mode_Sup_c7
noncomputable def mode_Sup_c10 : Code := seqR mode_Sup_c7
noncomputable def mode_Sup_c9o : Array Oper := regO mode_Sup_c9
noncomputable def mode_Sup_c11 : Code := seqL mode_Sup_c4
noncomputable def mode_Sup_c12 : Code := seqR mode_Sup_c4
noncomputable def mode_Sup_c13 : Code := seqL mode_Sup_c11
noncomputable def mode_Sup_c14 : Code := seqR mode_Sup_c11
noncomputable def mode_Sup_c13o : Array Oper := regO mode_Sup_c13
noncomputable def mode_Sup_c15 : Code := condT mode_Sup_c14
noncomputable def mode_Sup_c16 : Code := condE mode_Sup_c14
noncomputable def mode_Sup_c17 : Code := seqL mode_Sup_c15
noncomputable def mode_Sup_c18 : Code := seqR mode_Sup_c15
noncomputable def mode_Sup_c17o : Array Oper := regO mode_Sup_c17
noncomputable def mode_Sup_c19 : Code := seqL mode_Sup_c12
noncomputable def mode_Sup_c20 : Code := seqR mode_Sup_c12
noncomputable def mode_Sup_c19o : Array Oper := regO mode_Sup_c19
noncomputable def mode_Sup_c21 : Code := seqL mode_Sup_c20
noncomputable def mode_Sup_c22 : Code := seqR mode_Sup_c20
noncomputable def mode_Sup_c23 : Code := seqL mode_Sup_c21
noncomputable def mode_Sup_c24 : Code := seqR mode_Sup_c21
noncomputable def mode_Sup_c23o : Array Oper := regO mode_Sup_c23
noncomputable def mode_Sup_c25 : Code := blkB mode_Sup_c24
noncomputable def mode_Sup_c26 : Code := loopB mode_Sup_c25
noncomputable def mode_Sup_c27 : Code := seqL mode_Sup_c26
noncomputable def mode_Sup_c28 : Code := seqR mode_Sup_c26
noncomputable def mode_Sup_c27o : Array Oper := regO mode_Sup_c27
noncomputable def mode_Sup_c29 : Code := seqL mode_Sup_c28
noncomputable def mode_Sup_c30 : Code := seqR mode_Sup_c28
noncomputable def mode_Sup_c31 : Code := condT mode_Sup_c29
noncomputable def mode_Sup_c32 : Code := condE mode_Sup_c29
noncomputable def mode_Sup_c33 : Code := seqL mode_Sup_c30
noncomputable def mode_Sup_c34 : Code := seqR mode_Sup_c30
noncomputable def mode_Sup_c34o : Array Oper := regO mode_Sup_c34
noncomputable def mode_Sup_c35 : Code := blkB mode_Sup_c33
noncomputable def mode_Sup_c36 : Code := seqL mode_Sup_c35
noncomputable def mode_Sup_c37 : Code := seqR mode_Sup_c35
noncomputable def mode_Sup_c36o : Array Oper := regO mode_Sup_c36
noncomputable def mode_Sup_c38 : Code := seqL mode_Sup_c37
noncomputable def mode_Sup_c39 : Code := seqR mode_Sup_c37
noncomputable def mode_Sup_c38o : Array Oper := regO mode_Sup_c38
noncomputable def mode_Sup_c40 : Code := condT mode_Sup_c39
noncomputable def mode_Sup_c41 : Code := condE mode_Sup_c39
noncomputable def mode_Sup_c40o : Array Oper := regO mode_Sup_c40
noncomputable def mode_Sup_c42 : Code := seqL mode_Sup_c22
noncomputable def mode_Sup_c43 : Code := seqR mode_Sup_c22
noncomputable def mode_Sup_c42o : Array Oper := regO mode_Sup_c42
theorem mode_Sup_ok (n : Nat) (p0 : Int) (p1 : Int) (r : (Int × Int)) (w : World)  (h : mode_Sup n p0 p1 = some r) :
    Calls Try.prog 9 #[.int .i64 p0, .int .i64 p1] w fun e w' => e = .returned (.tuple #[.int .i64 r.1, .int .i64 r.2]) ∧ Ext w w' := by
  unfold mode_Sup at h
  refine enter 51 Try.func9 rfl (by kernel_rfl) (by simp) fun a hA => ?_
  change mode_Sup_c0.wp _ _ _ _
  refine c_seq mode_Sup_c1 mode_Sup_c2 (by kernel_rfl) fun K604 hK604 => ?_
  refine c_region mode_Sup_c1o 2 (by kernel_rfl) (by kernel_rfl) ?_
  refine wl_run 0 2 [0, 1] hA rfl (L' := [(0, .int .i64 p0), (1, .int .i64 p1)]) (vs := []) (obl := []) (by kernel_rfl) trivial fun a605 hA606 => ?_
  refine wl_end ?_
  refine hK604 _ _ ?_
  refine c_seq mode_Sup_c3 mode_Sup_c4 (by kernel_rfl) fun K607 hK607 => ?_
  refine c_seq mode_Sup_c5 mode_Sup_c6 (by kernel_rfl) fun K608 hK608 => ?_
  refine c_region mode_Sup_c5o 8 (by kernel_rfl) (by kernel_rfl) ?_
  refine wl_run 0 1 [0, 1, 8] hA606 rfl (L' := [(0, .int .i64 p0), (1, .int .i64 p1), (8, .int .i64 p0)]) (vs := []) (obl := []) (by kernel_rfl) trivial fun a609 hA610 => ?_
  obtain ⟨y611, hy611, h⟩ := bindS h
  refine wl_call 1 rfl (d := some 9) (g := 24) (args := #[.int .i64 p0]) hA610 (by kernel_rfl) Try.call24 (mode_is_ok n _ y611 w hy611) ?_
  rintro e w612 ⟨rfl, ex613⟩
  refine ⟨_, rfl, fun a614 hA615 => ?_⟩
  refine wl_run 2 2 [0, 1, 11] hA615 rfl (L' := [(0, .int .i64 p0), (1, .int .i64 p1), (11, .bool (!y611))]) (vs := []) (obl := []) (by kernel_rfl) trivial fun a616 hA617 => ?_
  refine wl_cut 8 rfl rfl fun K618 hK618 => ?_
  have JK618 : ∀ (p634 : Bool) (a631 : Act) (w630 : World), Ext w612 w630 → Has a631 51 [(0, .int .i64 p0), (1, .int .i64 p1), (15, .bool p634)] → mode_Sup_j7 n p0 p1 p634 = some r → K618 a631 w630 := by
    intro p634 a631 w630 ex633 hA632 h
    unfold mode_Sup_j7 at h
    refine hK618 _ _ ?_
    refine wl_end ?_
    refine hK608 _ _ ?_
    refine c_cond mode_Sup_c7 mode_Sup_c8 (condX mode_Sup_c6) p634 hA632 (by kernel_rfl) (by kernel_rfl) (by kernel_rfl) (fun hb635 => ?_) (fun hb635 => ?_)
    · replace h := ctrue hb635 h
      refine c_seq mode_Sup_c9 mode_Sup_c10 (by kernel_rfl) fun K636 hK636 => ?_
      refine c_region mode_Sup_c9o 2 (by kernel_rfl) (by kernel_rfl) ?_
      refine wl_run 0 2 [4, 5] hA632 rfl (L' := [(4, .int .i64 0), (5, .int .i64 170)]) (vs := []) (obl := []) (by kernel_rfl) trivial fun a637 hA638 => ?_
      refine wl_end ?_
      refine hK636 _ _ ?_
      refine c_ret (by kernel_rfl) ?_
      obtain rfl := someI h
      try simp only [Exit.then, Exit.inBlock]
      refine ret2 hA638 4 5 _ _ (by kernel_rfl) rfl rfl rfl rfl ?_
      exact ⟨rfl, (Ext.trans ex613 ex633)⟩
    · replace h := cfalse hb635 h
      refine c_skip (by kernel_rfl) ?_
      refine hK607 _ _ ?_
      refine c_seq mode_Sup_c11 mode_Sup_c12 (by kernel_rfl) fun K639 hK639 => ?_
      refine c_seq mode_Sup_c13 mode_Sup_c14 (by kernel_rfl) fun K640 hK640 => ?_
      refine c_region mode_Sup_c13o 16 (by kernel_rfl) (by kernel_rfl) ?_
      refine wl_run 0 1 [0, 1, 16] hA632 rfl (L' := [(0, .int .i64 p0), (1, .int .i64 p1), (16, .int .i64 p0)]) (vs := []) (obl := []) (by kernel_rfl) trivial fun a641 hA642 => ?_
      obtain ⟨y643, hy643, h⟩ := bindS h
      refine wl_call 1 rfl (d := some 17) (g := 19) (args := #[.int .i64 p0]) hA642 (by kernel_rfl) Try.call19 (mode_OfTables_ok n _ y643 w630 hy643) ?_
      rintro e w644 ⟨rfl, ex645⟩
      refine ⟨_, rfl, fun a646 hA647 => ?_⟩
      refine wl_run 2 1 [0, 1, 18] hA647 rfl (L' := [(0, .int .i64 p0), (1, .int .i64 p1), (18, .bool y643)]) (vs := []) (obl := []) (by kernel_rfl) trivial fun a648 hA649 => ?_
      refine wl_cut 6 rfl rfl fun K650 hK650 => ?_
      have JK650 : ∀ (p666 : Bool) (a663 : Act) (w662 : World), Ext w644 w662 → Has a663 51 [(0, .int .i64 p0), (1, .int .i64 p1), (21, .bool p666)] → mode_Sup_j6 n p0 p1 p666 = some r → K650 a663 w662 := by
        intro p666 a663 w662 ex665 hA664 h
        unfold mode_Sup_j6 at h
        refine hK650 _ _ ?_
        refine wl_run 6 2 [0, 1, 23] hA664 rfl (L' := [(0, .int .i64 p0), (1, .int .i64 p1), (23, .bool (!p666))]) (vs := []) (obl := []) (by kernel_rfl) trivial fun a667 hA668 => ?_
        refine wl_cut 16 rfl rfl fun K669 hK669 => ?_
        have JK669 : ∀ (p721 : Bool) (a718 : Act) (w717 : World), Ext w662 w717 → Has a718 51 [(0, .int .i64 p0), (1, .int .i64 p1), (31, .bool p721)] → mode_Sup_j4 n p0 p1 p721 = some r → K669 a718 w717 := by
          intro p721 a718 w717 ex720 hA719 h
          unfold mode_Sup_j4 at h
          refine hK669 _ _ ?_
          refine wl_end ?_
          refine hK640 _ _ ?_
          refine c_cond mode_Sup_c15 mode_Sup_c16 (condX mode_Sup_c14) p721 hA719 (by kernel_rfl) (by kernel_rfl) (by kernel_rfl) (fun hb722 => ?_) (fun hb722 => ?_)
          · replace h := ctrue hb722 h
            refine c_seq mode_Sup_c17 mode_Sup_c18 (by kernel_rfl) fun K723 hK723 => ?_
            refine c_region mode_Sup_c17o 2 (by kernel_rfl) (by kernel_rfl) ?_
            refine wl_run 0 2 [4, 5] hA719 rfl (L' := [(4, .int .i64 0), (5, .int .i64 2)]) (vs := []) (obl := []) (by kernel_rfl) trivial fun a724 hA725 => ?_
            refine wl_end ?_
            refine hK723 _ _ ?_
            refine c_ret (by kernel_rfl) ?_
            obtain rfl := someI h
            try simp only [Exit.then, Exit.inBlock]
            refine ret2 hA725 4 5 _ _ (by kernel_rfl) rfl rfl rfl rfl ?_
            exact ⟨rfl, (Ext.trans (Ext.trans (Ext.trans (Ext.trans ex613 ex633) ex645) ex665) ex720)⟩
          · replace h := cfalse hb722 h
            refine c_skip (by kernel_rfl) ?_
            refine hK639 _ _ ?_
            refine c_seq mode_Sup_c19 mode_Sup_c20 (by kernel_rfl) fun K726 hK726 => ?_
            refine c_region mode_Sup_c19o 1 (by kernel_rfl) (by kernel_rfl) ?_
            refine wl_run 0 1 [0, 1, 6] hA719 rfl (L' := [(0, .int .i64 p0), (1, .int .i64 p1), (6, .int .i64 5)]) (vs := []) (obl := []) (by kernel_rfl) trivial fun a727 hA728 => ?_
            refine wl_end ?_
            refine hK726 _ _ ?_
            refine c_seq mode_Sup_c21 mode_Sup_c22 (by kernel_rfl) fun K729 hK729 => ?_
            refine c_seq mode_Sup_c23 mode_Sup_c24 (by kernel_rfl) fun K730 hK730 => ?_
            refine c_region mode_Sup_c23o 1 (by kernel_rfl) (by kernel_rfl) ?_
            refine wl_run 0 1 [0, 1, 6, 32] hA728 rfl (L' := [(0, .int .i64 p0), (1, .int .i64 p1), (6, .int .i64 5), (32, .int .i64 0)]) (vs := []) (obl := []) (by kernel_rfl) trivial fun a731 hA732 => ?_
            refine wl_end ?_
            refine hK730 _ _ ?_
            refine c_block 0 mode_Sup_c25 (by kernel_rfl) ?_
            refine c_loop mode_Sup_c26 (by kernel_rfl) (fun m930 a928 w924 => ∃ (v925 : Int) (v926 : Int), mode_Sup_l2 n p0 p1 m930 v925 v926 = some r ∧ Ext w717 w924 ∧ Has a928 51 [(0, .int .i64 p0), (1, .int .i64 p1), (6, .int .i64 v925), (32, .int .i64 v926)]) n ⟨5, 0, h, (Ext.refl _), (Has.keep hA732 [0, 1, 6, 32] rfl)⟩ ?_
            rintro m930 a928 w924 ⟨v925, v926, h, ex927, hA929⟩ K931 hK931
            cases m930 with
            | zero => exact (noneS h).elim
            | succ m930 =>
              unfold mode_Sup_l2 at h
              refine c_seq mode_Sup_c27 mode_Sup_c28 (by kernel_rfl) fun K932 hK932 => ?_
              refine c_region mode_Sup_c27o 1 (by kernel_rfl) (by kernel_rfl) ?_
              refine wl_run 0 1 [0, 1, 6, 32, 33] hA929 rfl (L' := [(0, .int .i64 p0), (1, .int .i64 p1), (6, .int .i64 v925), (32, .int .i64 v926), (33, .bool (decide (v926 < 7)))]) (vs := []) (obl := []) (by kernel_rfl) trivial fun a933 hA934 => ?_
              refine wl_end ?_
              refine hK932 _ _ ?_
              refine c_seq mode_Sup_c29 mode_Sup_c30 (by kernel_rfl) fun K935 hK935 => ?_
              refine c_cond mode_Sup_c31 mode_Sup_c32 (condX mode_Sup_c29) (decide (v926 < 7)) hA934 (by kernel_rfl) (by kernel_rfl) (by kernel_rfl) (fun hb936 => ?_) (fun hb936 => ?_)
              · replace h := ctrue hb936 h
                refine c_skip (by kernel_rfl) ?_
                refine hK935 _ _ ?_
                refine c_seq mode_Sup_c33 mode_Sup_c34 (by kernel_rfl) fun K937 hK937 => ?_
                have JK937 : ∀ (v1025 : Int) (a1027 : Act) (w1024 : World) (ex1026 : Ext w924 w1024) (hA1028 : Has a1027 51 [(0, .int .i64 p0), (1, .int .i64 p1), (6, .int .i64 v1025), (32, .int .i64 v926)]), mode_Sup_j1 n v926 (mode_Sup_l2 n p0 p1 m930) v1025 = some r → K937 a1027 w1024 := by
                  intro v1025 a1027 w1024 ex1026 hA1028 h
                  unfold mode_Sup_j1 at h
                  refine hK937 _ _ ?_
                  refine c_region mode_Sup_c34o 2 (by kernel_rfl) (by kernel_rfl) ?_
                  refine wl_run 0 2 [0, 1, 6, 32] hA1028 rfl (L' := [(0, .int .i64 p0), (1, .int .i64 p1), (6, .int .i64 v1025), (32, .int .i64 (IntKind.wrap .i64 (v926 + 1)))]) (vs := []) (obl := []) (by kernel_rfl) trivial fun a1029 hA1030 => ?_
                  refine wl_end ?_
                  exact hK931 m930 _ _ (Nat.lt_succ_self _) ⟨v1025, (IntKind.wrap .i64 (v926 + 1)), h, (Ext.trans ex927 ex1026), (Has.keep hA1030 [0, 1, 6, 32] rfl)⟩
                refine c_block 1 mode_Sup_c35 (by kernel_rfl) ?_
                refine c_seq mode_Sup_c36 mode_Sup_c37 (by kernel_rfl) fun K1031 hK1031 => ?_
                refine c_region mode_Sup_c36o 2 (by kernel_rfl) (by kernel_rfl) ?_
                refine wl_run 0 2 [0, 1, 6, 7, 32] hA934 rfl (L' := [(0, .int .i64 p0), (1, .int .i64 p1), (6, .int .i64 v925), (7, .int .i64 v926), (32, .int .i64 v926)]) (vs := []) (obl := []) (by kernel_rfl) trivial fun a1032 hA1033 => ?_
                refine wl_end ?_
                refine hK1031 _ _ ?_
                refine c_seq mode_Sup_c38 mode_Sup_c39 (by kernel_rfl) fun K1034 hK1034 => ?_
                refine c_region mode_Sup_c38o 13 (by kernel_rfl) (by kernel_rfl) ?_
                refine wl_run 0 2 [0, 1, 6, 7, 32, 35, 36] hA1033 rfl (L' := [(0, .int .i64 p0), (1, .int .i64 p1), (6, .int .i64 v925), (7, .int .i64 v926), (32, .int .i64 v926), (35, .int .i64 v926), (36, .int .i64 p0)]) (vs := []) (obl := []) (by kernel_rfl) trivial fun a1035 hA1036 => ?_
                obtain ⟨y1037, hy1037, h⟩ := bindS h
                refine wl_call 2 rfl (d := some 37) (g := 12) (args := #[.int .i64 v926, .int .i64 p0]) hA1036 (by kernel_rfl) Try.call12 (mode_Covers_ok n _ _ y1037 w924 hy1037) ?_
                rintro e w1038 ⟨rfl, ex1039⟩
                refine ⟨_, rfl, fun a1040 hA1041 => ?_⟩
                refine wl_run 3 1 [0, 1, 6, 7, 32, 38] hA1041 rfl (L' := [(0, .int .i64 p0), (1, .int .i64 p1), (6, .int .i64 v925), (7, .int .i64 v926), (32, .int .i64 v926), (38, .bool y1037)]) (vs := []) (obl := []) (by kernel_rfl) trivial fun a1042 hA1043 => ?_
                refine wl_cut 8 rfl rfl fun K1044 hK1044 => ?_
                have JK1044 : ∀ (p1060 : Bool) (a1057 : Act) (w1056 : World), Ext w1038 w1056 → Has a1057 51 [(0, .int .i64 p0), (1, .int .i64 p1), (6, .int .i64 v925), (7, .int .i64 v926), (32, .int .i64 v926), (42, .bool p1060)] → mode_Sup_j3 n v925 v926 (mode_Sup_l2 n p0 p1 m930) p1060 = some r → K1044 a1057 w1056 := by
                  intro p1060 a1057 w1056 ex1059 hA1058 h
                  unfold mode_Sup_j3 at h
                  refine hK1044 _ _ ?_
                  refine wl_run 8 1 [0, 1, 6, 7, 32, 43] hA1058 rfl (L' := [(0, .int .i64 p0), (1, .int .i64 p1), (6, .int .i64 v925), (7, .int .i64 v926), (32, .int .i64 v926), (43, .bool p1060)]) (vs := []) (obl := []) (by kernel_rfl) trivial fun a1061 hA1062 => ?_
                  refine wl_cut 13 rfl rfl fun K1063 hK1063 => ?_
                  have JK1063 : ∀ (p1079 : Bool) (a1076 : Act) (w1075 : World), Ext w1056 w1075 → Has a1076 51 [(0, .int .i64 p0), (1, .int .i64 p1), (6, .int .i64 v925), (7, .int .i64 v926), (32, .int .i64 v926), (47, .bool p1079)] → mode_Sup_j2 n v925 v926 (mode_Sup_l2 n p0 p1 m930) p1079 = some r → K1063 a1076 w1075 := by
                    intro p1079 a1076 w1075 ex1078 hA1077 h
                    unfold mode_Sup_j2 at h
                    refine hK1063 _ _ ?_
                    refine wl_end ?_
                    refine hK1034 _ _ ?_
                    refine c_cond mode_Sup_c40 mode_Sup_c41 (condX mode_Sup_c39) p1079 hA1077 (by kernel_rfl) (by kernel_rfl) (by kernel_rfl) (fun hb1080 => ?_) (fun hb1080 => ?_)
                    · replace h := ctrue hb1080 h
                      refine c_region mode_Sup_c40o 2 (by kernel_rfl) (by kernel_rfl) ?_
                      refine wl_run 0 2 [0, 1, 6, 32] hA1077 rfl (L' := [(0, .int .i64 p0), (1, .int .i64 p1), (6, .int .i64 v926), (32, .int .i64 v926)]) (vs := []) (obl := []) (by kernel_rfl) trivial fun a1081 hA1082 => ?_
                      refine wl_end ?_
                      exact JK937 v926 a1081 w1075 (Ext.trans (Ext.trans ex1039 ex1059) ex1078) (Has.keep hA1082 [0, 1, 6, 32] rfl) h
                    · replace h := cfalse hb1080 h
                      refine c_skip (by kernel_rfl) ?_
                      exact JK937 v925 a1076 w1075 (Ext.trans (Ext.trans ex1039 ex1059) ex1078) (Has.keep hA1077 [0, 1, 6, 32] rfl) h
                  obtain ⟨p1079, hv1084, h⟩ := bindS h
                  cases hb1083 : p1060
                  · have hA1085 := Has.to (L' := [(0, .int .i64 p0), (1, .int .i64 p1), (6, .int .i64 v925), (7, .int .i64 v926), (32, .int .i64 v926), (43, .bool false)]) hA1062 (by rw [hb1083])
                    replace hv1084 := cfalse hb1083 hv1084
                    have hk1086 := h
                    clear h
                    have h := hv1084
                    refine wl_run 9 4 [0, 1, 6, 7, 32, 44, 45, 46, 47] hA1085 rfl (L' := [(0, .int .i64 p0), (1, .int .i64 p1), (6, .int .i64 v925), (7, .int .i64 v926), (32, .int .i64 v926), (44, undef), (45, undef), (46, undef), (47, .bool false)]) (vs := []) (obl := []) (by kernel_rfl) trivial fun a1087 hA1088 => ?_
                    refine wl_end ?_
                    obtain rfl := someI h
                    exact JK1063 _ a1087 w1056 (Ext.refl _) (Has.keep hA1088 [0, 1, 6, 7, 32, 47] rfl) hk1086
                  · have hA1089 := Has.to (L' := [(0, .int .i64 p0), (1, .int .i64 p1), (6, .int .i64 v925), (7, .int .i64 v926), (32, .int .i64 v926), (43, .bool true)]) hA1062 (by rw [hb1083])
                    replace hv1084 := ctrue hb1083 hv1084
                    have hk1090 := h
                    clear h
                    have h := hv1084
                    refine wl_run 9 2 [0, 1, 6, 7, 32, 43, 44, 45] hA1089 rfl (L' := [(0, .int .i64 p0), (1, .int .i64 p1), (6, .int .i64 v925), (7, .int .i64 v926), (32, .int .i64 v926), (43, .bool true), (44, .int .i64 v925), (45, .int .i64 v926)]) (vs := []) (obl := []) (by kernel_rfl) trivial fun a1091 hA1092 => ?_
                    obtain ⟨y1093, hy1093, h⟩ := bindS h
                    refine wl_call 11 rfl (d := some 46) (g := 12) (args := #[.int .i64 v925, .int .i64 v926]) hA1092 (by kernel_rfl) Try.call12 (mode_Covers_ok n _ _ y1093 w1056 hy1093) ?_
                    rintro e w1094 ⟨rfl, ex1095⟩
                    refine ⟨_, rfl, fun a1096 hA1097 => ?_⟩
                    refine wl_run 12 1 [0, 1, 6, 7, 32, 44, 45, 46, 47] hA1097 rfl (L' := [(0, .int .i64 p0), (1, .int .i64 p1), (6, .int .i64 v925), (7, .int .i64 v926), (32, .int .i64 v926), (44, .int .i64 v925), (45, .int .i64 v926), (46, .bool y1093), (47, .bool y1093)]) (vs := []) (obl := []) (by kernel_rfl) trivial fun a1098 hA1099 => ?_
                    refine wl_end ?_
                    obtain rfl := someI h
                    exact JK1063 _ a1098 w1094 ex1095 (Has.keep hA1099 [0, 1, 6, 7, 32, 47] rfl) hk1090
                obtain ⟨p1060, hv1101, h⟩ := bindS h
                cases hb1100 : y1037
                · have hA1102 := Has.to (L' := [(0, .int .i64 p0), (1, .int .i64 p1), (6, .int .i64 v925), (7, .int .i64 v926), (32, .int .i64 v926), (38, .bool false)]) hA1043 (by rw [hb1100])
                  replace hv1101 := cfalse hb1100 hv1101
                  have hk1103 := h
                  clear h
                  have h := hv1101
                  refine wl_run 4 4 [0, 1, 6, 7, 32, 39, 40, 41, 42] hA1102 rfl (L' := [(0, .int .i64 p0), (1, .int .i64 p1), (6, .int .i64 v925), (7, .int .i64 v926), (32, .int .i64 v926), (39, undef), (40, undef), (41, undef), (42, .bool false)]) (vs := []) (obl := []) (by kernel_rfl) trivial fun a1104 hA1105 => ?_
                  refine wl_end ?_
                  obtain rfl := someI h
                  exact JK1044 _ a1104 w1038 (Ext.refl _) (Has.keep hA1105 [0, 1, 6, 7, 32, 42] rfl) hk1103
                · have hA1106 := Has.to (L' := [(0, .int .i64 p0), (1, .int .i64 p1), (6, .int .i64 v925), (7, .int .i64 v926), (32, .int .i64 v926), (38, .bool true)]) hA1043 (by rw [hb1100])
                  replace hv1101 := ctrue hb1100 hv1101
                  have hk1107 := h
                  clear h
                  have h := hv1101
                  refine wl_run 4 2 [0, 1, 6, 7, 32, 38, 39, 40] hA1106 rfl (L' := [(0, .int .i64 p0), (1, .int .i64 p1), (6, .int .i64 v925), (7, .int .i64 v926), (32, .int .i64 v926), (38, .bool true), (39, .int .i64 v926), (40, .int .i64 p1)]) (vs := []) (obl := []) (by kernel_rfl) trivial fun a1108 hA1109 => ?_
                  obtain ⟨y1110, hy1110, h⟩ := bindS h
                  refine wl_call 6 rfl (d := some 41) (g := 12) (args := #[.int .i64 v926, .int .i64 p1]) hA1109 (by kernel_rfl) Try.call12 (mode_Covers_ok n _ _ y1110 w1038 hy1110) ?_
                  rintro e w1111 ⟨rfl, ex1112⟩
                  refine ⟨_, rfl, fun a1113 hA1114 => ?_⟩
                  refine wl_run 7 1 [0, 1, 6, 7, 32, 39, 40, 41, 42] hA1114 rfl (L' := [(0, .int .i64 p0), (1, .int .i64 p1), (6, .int .i64 v925), (7, .int .i64 v926), (32, .int .i64 v926), (39, .int .i64 v926), (40, .int .i64 p1), (41, .bool y1110), (42, .bool y1110)]) (vs := []) (obl := []) (by kernel_rfl) trivial fun a1115 hA1116 => ?_
                  refine wl_end ?_
                  obtain rfl := someI h
                  exact JK1044 _ a1115 w1111 ex1112 (Has.keep hA1116 [0, 1, 6, 7, 32, 42] rfl) hk1107
              · replace h := cfalse hb936 h
                refine c_exit 0 (by kernel_rfl) ?_
                refine hK729 _ _ ?_
                refine c_seq mode_Sup_c42 mode_Sup_c43 (by kernel_rfl) fun K1117 hK1117 => ?_
                refine c_region mode_Sup_c42o 3 (by kernel_rfl) (by kernel_rfl) ?_
                refine wl_run 0 3 [4, 5] hA934 rfl (L' := [(4, .int .i64 v925), (5, .int .i64 0)]) (vs := []) (obl := []) (by kernel_rfl) trivial fun a1118 hA1119 => ?_
                refine wl_end ?_
                refine hK1117 _ _ ?_
                refine c_ret (by kernel_rfl) ?_
                obtain rfl := someI h
                try simp only [Exit.then, Exit.inBlock]
                refine ret2 hA1119 4 5 _ _ (by kernel_rfl) rfl rfl rfl rfl ?_
                exact ⟨rfl, (Ext.trans (Ext.trans (Ext.trans (Ext.trans (Ext.trans ex613 ex633) ex645) ex665) ex720) ex927)⟩
        obtain ⟨p721, hv1121, h⟩ := bindS h
        cases hb1120 : (!p666)
        · have hA1122 := Has.to (L' := [(0, .int .i64 p0), (1, .int .i64 p1), (23, .bool false)]) hA668 (by rw [hb1120])
          replace hv1121 := cfalse hb1120 hv1121
          have hk1123 := h
          clear h
          have h := hv1121
          refine wl_run 8 8 [0, 1, 31] hA1122 rfl (L' := [(0, .int .i64 p0), (1, .int .i64 p1), (31, .bool false)]) (vs := []) (obl := []) (by kernel_rfl) trivial fun a1124 hA1125 => ?_
          refine wl_end ?_
          obtain rfl := someI h
          exact JK669 _ a1124 w662 (Ext.refl _) (Has.keep hA1125 [0, 1, 31] rfl) hk1123
        · have hA1126 := Has.to (L' := [(0, .int .i64 p0), (1, .int .i64 p1), (23, .bool true)]) hA668 (by rw [hb1120])
          replace hv1121 := ctrue hb1120 hv1121
          have hk1127 := h
          clear h
          have h := hv1121
          refine wl_run 8 1 [0, 1, 23, 24] hA1126 rfl (L' := [(0, .int .i64 p0), (1, .int .i64 p1), (23, .bool true), (24, .int .i64 p0)]) (vs := []) (obl := []) (by kernel_rfl) trivial fun a1128 hA1129 => ?_
          obtain ⟨y1130, hy1130, h⟩ := bindS h
          refine wl_call 9 rfl (d := some 25) (g := 20) (args := #[.int .i64 p0]) hA1129 (by kernel_rfl) Try.call20 (mode_OfKeys_ok n _ y1130 w662 hy1130) ?_
          rintro e w1131 ⟨rfl, ex1132⟩
          refine ⟨_, rfl, fun a1133 hA1134 => ?_⟩
          refine wl_run 10 1 [0, 1, 23, 26] hA1134 rfl (L' := [(0, .int .i64 p0), (1, .int .i64 p1), (23, .bool true), (26, .bool y1130)]) (vs := []) (obl := []) (by kernel_rfl) trivial fun a1135 hA1136 => ?_
          refine wl_cut 14 rfl rfl fun K1137 hK1137 => ?_
          have JK1137 : ∀ (p1153 : Bool) (a1150 : Act) (w1149 : World), Ext w1131 w1149 → Has a1150 51 [(0, .int .i64 p0), (1, .int .i64 p1), (23, .bool true), (29, .bool p1153)] → mode_Sup_j5 n p1153 = some p721 → K1137 a1150 w1149 := by
            intro p1153 a1150 w1149 ex1152 hA1151 h
            unfold mode_Sup_j5 at h
            refine hK1137 _ _ ?_
            refine wl_run 14 2 [0, 1, 31] hA1151 rfl (L' := [(0, .int .i64 p0), (1, .int .i64 p1), (31, .bool (!p1153))]) (vs := []) (obl := []) (by kernel_rfl) trivial fun a1154 hA1155 => ?_
            refine wl_end ?_
            obtain rfl := someI h
            exact JK669 _ a1154 w1149 (Ext.trans ex1132 ex1152) (Has.keep hA1155 [0, 1, 31] rfl) hk1127
          obtain ⟨p1153, hv1157, h⟩ := bindS h
          cases hb1156 : y1130
          · have hA1158 := Has.to (L' := [(0, .int .i64 p0), (1, .int .i64 p1), (23, .bool true), (26, .bool false)]) hA1136 (by rw [hb1156])
            replace hv1157 := cfalse hb1156 hv1157
            have hk1159 := h
            clear h
            have h := hv1157
            refine wl_run 11 3 [0, 1, 23, 29] hA1158 rfl (L' := [(0, .int .i64 p0), (1, .int .i64 p1), (23, .bool true), (29, .bool false)]) (vs := []) (obl := []) (by kernel_rfl) trivial fun a1160 hA1161 => ?_
            refine wl_end ?_
            obtain rfl := someI h
            exact JK1137 _ a1160 w1131 (Ext.refl _) (Has.keep hA1161 [0, 1, 23, 29] rfl) hk1159
          · have hA1162 := Has.to (L' := [(0, .int .i64 p0), (1, .int .i64 p1), (23, .bool true), (26, .bool true)]) hA1136 (by rw [hb1156])
            replace hv1157 := ctrue hb1156 hv1157
            have hk1163 := h
            clear h
            have h := hv1157
            refine wl_run 11 1 [0, 1, 23, 26, 27] hA1162 rfl (L' := [(0, .int .i64 p0), (1, .int .i64 p1), (23, .bool true), (26, .bool true), (27, .int .i64 p1)]) (vs := []) (obl := []) (by kernel_rfl) trivial fun a1164 hA1165 => ?_
            obtain ⟨y1166, hy1166, h⟩ := bindS h
            refine wl_call 12 rfl (d := some 28) (g := 20) (args := #[.int .i64 p1]) hA1165 (by kernel_rfl) Try.call20 (mode_OfKeys_ok n _ y1166 w1131 hy1166) ?_
            rintro e w1167 ⟨rfl, ex1168⟩
            refine ⟨_, rfl, fun a1169 hA1170 => ?_⟩
            refine wl_run 13 1 [0, 1, 23, 29] hA1170 rfl (L' := [(0, .int .i64 p0), (1, .int .i64 p1), (23, .bool true), (29, .bool y1166)]) (vs := []) (obl := []) (by kernel_rfl) trivial fun a1171 hA1172 => ?_
            refine wl_end ?_
            obtain rfl := someI h
            exact JK1137 _ a1171 w1167 ex1168 (Has.keep hA1172 [0, 1, 23, 29] rfl) hk1163
      obtain ⟨p666, hv1174, h⟩ := bindS h
      cases hb1173 : y643
      · have hA1175 := Has.to (L' := [(0, .int .i64 p0), (1, .int .i64 p1), (18, .bool false)]) hA649 (by rw [hb1173])
        replace hv1174 := cfalse hb1173 hv1174
        have hk1176 := h
        clear h
        have h := hv1174
        refine wl_run 3 3 [0, 1, 21] hA1175 rfl (L' := [(0, .int .i64 p0), (1, .int .i64 p1), (21, .bool false)]) (vs := []) (obl := []) (by kernel_rfl) trivial fun a1177 hA1178 => ?_
        refine wl_end ?_
        obtain rfl := someI h
        exact JK650 _ a1177 w644 (Ext.refl _) (Has.keep hA1178 [0, 1, 21] rfl) hk1176
      · have hA1179 := Has.to (L' := [(0, .int .i64 p0), (1, .int .i64 p1), (18, .bool true)]) hA649 (by rw [hb1173])
        replace hv1174 := ctrue hb1173 hv1174
        have hk1180 := h
        clear h
        have h := hv1174
        refine wl_run 3 1 [0, 1, 18, 19] hA1179 rfl (L' := [(0, .int .i64 p0), (1, .int .i64 p1), (18, .bool true), (19, .int .i64 p1)]) (vs := []) (obl := []) (by kernel_rfl) trivial fun a1181 hA1182 => ?_
        obtain ⟨y1183, hy1183, h⟩ := bindS h
        refine wl_call 4 rfl (d := some 20) (g := 19) (args := #[.int .i64 p1]) hA1182 (by kernel_rfl) Try.call19 (mode_OfTables_ok n _ y1183 w644 hy1183) ?_
        rintro e w1184 ⟨rfl, ex1185⟩
        refine ⟨_, rfl, fun a1186 hA1187 => ?_⟩
        refine wl_run 5 1 [0, 1, 21] hA1187 rfl (L' := [(0, .int .i64 p0), (1, .int .i64 p1), (21, .bool y1183)]) (vs := []) (obl := []) (by kernel_rfl) trivial fun a1188 hA1189 => ?_
        refine wl_end ?_
        obtain rfl := someI h
        exact JK650 _ a1188 w1184 ex1185 (Has.keep hA1189 [0, 1, 21] rfl) hk1180
  obtain ⟨p634, hv1191, h⟩ := bindS h
  cases hb1190 : (!y611)
  · have hA1192 := Has.to (L' := [(0, .int .i64 p0), (1, .int .i64 p1), (11, .bool false)]) hA617 (by rw [hb1190])
    replace hv1191 := cfalse hb1190 hv1191
    have hk1193 := h
    clear h
    have h := hv1191
    refine wl_run 4 1 [0, 1, 11, 12] hA1192 rfl (L' := [(0, .int .i64 p0), (1, .int .i64 p1), (11, .bool false), (12, .int .i64 p1)]) (vs := []) (obl := []) (by kernel_rfl) trivial fun a1194 hA1195 => ?_
    obtain ⟨y1196, hy1196, h⟩ := bindS h
    refine wl_call 5 rfl (d := some 13) (g := 24) (args := #[.int .i64 p1]) hA1195 (by kernel_rfl) Try.call24 (mode_is_ok n _ y1196 w612 hy1196) ?_
    rintro e w1197 ⟨rfl, ex1198⟩
    refine ⟨_, rfl, fun a1199 hA1200 => ?_⟩
    refine wl_run 6 2 [0, 1, 15] hA1200 rfl (L' := [(0, .int .i64 p0), (1, .int .i64 p1), (15, .bool (!y1196))]) (vs := []) (obl := []) (by kernel_rfl) trivial fun a1201 hA1202 => ?_
    refine wl_end ?_
    obtain rfl := someI h
    exact JK618 _ a1201 w1197 ex1198 (Has.keep hA1202 [0, 1, 15] rfl) hk1193
  · have hA1203 := Has.to (L' := [(0, .int .i64 p0), (1, .int .i64 p1), (11, .bool true)]) hA617 (by rw [hb1190])
    replace hv1191 := ctrue hb1190 hv1191
    have hk1204 := h
    clear h
    have h := hv1191
    refine wl_run 4 4 [0, 1, 15] hA1203 rfl (L' := [(0, .int .i64 p0), (1, .int .i64 p1), (15, .bool true)]) (vs := []) (obl := []) (by kernel_rfl) trivial fun a1205 hA1206 => ?_
    refine wl_end ?_
    obtain rfl := someI h
    exact JK618 _ a1205 w612 (Ext.refl _) (Has.keep hA1206 [0, 1, 15] rfl) hk1204

end Go.Proofs.Ytghinjlfaicpjaa
