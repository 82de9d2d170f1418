/- Functions of the program: plain twins and walks, printed by program. -/
import Derived.Test.YtghinjlfaicpjaaTypes
import Derived.Test.YtghinjlfaicpjaaF0
import Derived.Test.YtghinjlfaicpjaaF1
namespace Go.Proofs.Ytghinjlfaicpjaa
open Go.Bur Go.RowKit
set_option linter.unusedVariables false
set_option linter.unusedSimpArgs false
set_option maxRecDepth 100000
/-! bursary bursaryref07.Tables -/
def ref07_Tables (n : Nat) (p0 : Int) : Option Bool :=
  (ref07_Is n p0).bind fun y40 =>
  some (y40 && (p0 != 6))
noncomputable def ref07_Tables_c0 : Code := bodyOf Try.f15
noncomputable def ref07_Tables_c1 : Code := seqL ref07_Tables_c0
noncomputable def ref07_Tables_c2 : Code := seqR ref07_Tables_c0
noncomputable def ref07_Tables_c1o : Array Oper := regO ref07_Tables_c1
noncomputable def ref07_Tables_c3 : Code := seqL ref07_Tables_c2
noncomputable def ref07_Tables_c4 : Code := seqR ref07_Tables_c2
noncomputable def ref07_Tables_c3o : Array Oper := regO ref07_Tables_c3
theorem ref07_Tables_ok (n : Nat) (p0 : Int) (r : Bool) (w : World)  (h : ref07_Tables n p0 = some r) :
    Calls Try.prog 15 #[.int .i64 p0] w fun e w' => e = .returned (.bool r) ∧ Ext w w' := by
  unfold ref07_Tables at h
  refine enter 9 Try.func15 rfl (by kernel_rfl) (by simp) fun a hA => ?_
  change ref07_Tables_c0.wp _ _ _ _
  refine c_seq ref07_Tables_c1 ref07_Tables_c2 (by kernel_rfl) fun K34 hK34 => ?_
  refine c_region ref07_Tables_c1o 1 (by kernel_rfl) (by kernel_rfl) ?_
  refine wl_run 0 1 [0] hA rfl (L' := [(0, .int .i64 p0)]) (vs := []) (obl := []) (by kernel_rfl) trivial fun a35 hA36 => ?_
  refine wl_end ?_
  refine hK34 _ _ ?_
  refine c_seq ref07_Tables_c3 ref07_Tables_c4 (by kernel_rfl) fun K37 hK37 => ?_
  refine c_region ref07_Tables_c3o 7 (by kernel_rfl) (by kernel_rfl) ?_
  refine wl_run 0 1 [0, 3] hA36 rfl (L' := [(0, .int .i64 p0), (3, .int .i64 p0)]) (vs := []) (obl := []) (by kernel_rfl) trivial fun a38 hA39 => ?_
  obtain ⟨y40, hy40, h⟩ := bindS h
  refine wl_call 1 rfl (d := some 4) (g := 14) (args := #[.int .i64 p0]) hA39 (by kernel_rfl) Try.call14 (ref07_Is_ok n _ y40 w hy40) ?_
  rintro e w41 ⟨rfl, ex42⟩
  refine ⟨_, rfl, fun a43 hA44 => ?_⟩
  refine wl_run 2 1 [0, 5] hA44 rfl (L' := [(0, .int .i64 p0), (5, .bool y40)]) (vs := []) (obl := []) (by kernel_rfl) trivial fun a45 hA46 => ?_
  refine wl_cut 6 rfl rfl fun K47 hK47 => ?_
  have JK47 : ∀ (a53 : Act), Has a53 9 [(8, .bool (y40 && (p0 != 6)))] → K47 a53 w41 := by
    intro a53 hA54
    refine hK47 _ _ ?_
    refine wl_run 6 1 [2] hA54 rfl (L' := [(2, .bool (y40 && (p0 != 6)))]) (vs := []) (obl := []) (by kernel_rfl) trivial fun a56 hA57 => ?_
    refine wl_end ?_
    refine hK37 _ _ ?_
    refine c_ret (by kernel_rfl) ?_
    obtain rfl := someI h
    try simp only [Exit.then, Exit.inBlock]
    refine ret1 hA57 2 _ (by kernel_rfl) rfl rfl ?_
    exact ⟨rfl, ex42⟩
  cases hb58 : y40
  · have hA59 := Has.to (L' := [(0, .int .i64 p0), (5, .bool false)]) hA46 (by rw [hb58])
    refine wl_run 3 3 [8] hA59 rfl (L' := [(8, .bool false)]) (vs := []) (obl := []) (by kernel_rfl) trivial fun a61 hA62 => ?_
    refine wl_end ?_
    exact JK47 a61 (Has.to (Has.keep hA62 [8] rfl) (by rw [hb58]; rfl))
  · have hA63 := Has.to (L' := [(0, .int .i64 p0), (5, .bool true)]) hA46 (by rw [hb58])
    refine wl_run 3 3 [8] hA63 rfl (L' := [(8, .bool (p0 != 6))]) (vs := []) (obl := []) (by kernel_rfl) trivial fun a65 hA66 => ?_
    refine wl_end ?_
    exact JK47 a65 (Has.to (Has.keep hA66 [8] rfl) (by rw [hb58]; rfl))

/-! bursary bursaryref07.Keys -/
def ref07_Keys (n : Nat) (p0 : Int) : Option Bool :=
  some ((((p0 == 0) || (p0 == 3)) || (p0 == 5)) || (p0 == 6))
noncomputable def ref07_Keys_c0 : Code := bodyOf Try.f16
noncomputable def ref07_Keys_c1 : Code := seqL ref07_Keys_c0
noncomputable def ref07_Keys_c2 : Code := seqR ref07_Keys_c0
noncomputable def ref07_Keys_c1o : Array Oper := regO ref07_Keys_c1
noncomputable def ref07_Keys_c3 : Code := seqL ref07_Keys_c2
noncomputable def ref07_Keys_c4 : Code := seqR ref07_Keys_c2
noncomputable def ref07_Keys_c3o : Array Oper := regO ref07_Keys_c3
theorem ref07_Keys_ok (n : Nat) (p0 : Int) (r : Bool) (w : World)  (h : ref07_Keys n p0 = some r) :
    Calls Try.prog 16 #[.int .i64 p0] w fun e w' => e = .returned (.bool r) ∧ Ext w w' := by
  unfold ref07_Keys at h
  refine enter 17 Try.func16 rfl (by kernel_rfl) (by simp) fun a hA => ?_
  change ref07_Keys_c0.wp _ _ _ _
  refine c_seq ref07_Keys_c1 ref07_Keys_c2 (by kernel_rfl) fun K67 hK67 => ?_
  refine c_region ref07_Keys_c1o 1 (by kernel_rfl) (by kernel_rfl) ?_
  refine wl_run 0 1 [0] hA rfl (L' := [(0, .int .i64 p0)]) (vs := []) (obl := []) (by kernel_rfl) trivial fun a68 hA69 => ?_
  refine wl_end ?_
  refine hK67 _ _ ?_
  refine c_seq ref07_Keys_c3 ref07_Keys_c4 (by kernel_rfl) fun K70 hK70 => ?_
  refine c_region ref07_Keys_c3o 15 (by kernel_rfl) (by kernel_rfl) ?_
  refine wl_run 0 3 [0, 5] hA69 rfl (L' := [(0, .int .i64 p0), (5, .bool (p0 == 0))]) (vs := []) (obl := []) (by kernel_rfl) trivial fun a71 hA72 => ?_
  refine wl_cut 6 rfl rfl fun K73 hK73 => ?_
  have JK73 : ∀ (a79 : Act), Has a79 17 [(0, .int .i64 p0), (8, .bool ((p0 == 0) || (p0 == 3)))] → K73 a79 w := by
    intro a79 hA80
    refine hK73 _ _ ?_
    refine wl_run 6 1 [0, 9] hA80 rfl (L' := [(0, .int .i64 p0), (9, .bool ((p0 == 0) || (p0 == 3)))]) (vs := []) (obl := []) (by kernel_rfl) trivial fun a82 hA83 => ?_
    refine wl_cut 10 rfl rfl fun K84 hK84 => ?_
    have JK84 : ∀ (a90 : Act), Has a90 17 [(0, .int .i64 p0), (12, .bool (((p0 == 0) || (p0 == 3)) || (p0 == 5)))] → K84 a90 w := by
      intro a90 hA91
      refine hK84 _ _ ?_
      refine wl_run 10 1 [0, 13] hA91 rfl (L' := [(0, .int .i64 p0), (13, .bool (((p0 == 0) || (p0 == 3)) || (p0 == 5)))]) (vs := []) (obl := []) (by kernel_rfl) trivial fun a93 hA94 => ?_
      refine wl_cut 14 rfl rfl fun K95 hK95 => ?_
      have JK95 : ∀ (a101 : Act), Has a101 17 [(16, .bool ((((p0 == 0) || (p0 == 3)) || (p0 == 5)) || (p0 == 6)))] → K95 a101 w := by
        intro a101 hA102
        refine hK95 _ _ ?_
        refine wl_run 14 1 [2] hA102 rfl (L' := [(2, .bool ((((p0 == 0) || (p0 == 3)) || (p0 == 5)) || (p0 == 6)))]) (vs := []) (obl := []) (by kernel_rfl) trivial fun a104 hA105 => ?_
        refine wl_end ?_
        refine hK70 _ _ ?_
        refine c_ret (by kernel_rfl) ?_
        obtain rfl := someI h
        try simp only [Exit.then, Exit.inBlock]
        refine ret1 hA105 2 _ (by kernel_rfl) rfl rfl ?_
        exact ⟨rfl, (Ext.refl _)⟩
      cases hb106 : (((p0 == 0) || (p0 == 3)) || (p0 == 5))
      · have hA107 := Has.to (L' := [(0, .int .i64 p0), (13, .bool false)]) hA94 (by rw [hb106])
        refine wl_run 11 3 [16] hA107 rfl (L' := [(16, .bool (p0 == 6))]) (vs := []) (obl := []) (by kernel_rfl) trivial fun a109 hA110 => ?_
        refine wl_end ?_
        exact JK95 a109 (Has.to (Has.keep hA110 [16] rfl) (by rw [hb106]; rfl))
      · have hA111 := Has.to (L' := [(0, .int .i64 p0), (13, .bool true)]) hA94 (by rw [hb106])
        refine wl_run 11 3 [16] hA111 rfl (L' := [(16, .bool true)]) (vs := []) (obl := []) (by kernel_rfl) trivial fun a113 hA114 => ?_
        refine wl_end ?_
        exact JK95 a113 (Has.to (Has.keep hA114 [16] rfl) (by rw [hb106]; rfl))
    cases hb115 : ((p0 == 0) || (p0 == 3))
    · have hA116 := Has.to (L' := [(0, .int .i64 p0), (9, .bool false)]) hA83 (by rw [hb115])
      refine wl_run 7 3 [0, 12] hA116 rfl (L' := [(0, .int .i64 p0), (12, .bool (p0 == 5))]) (vs := []) (obl := []) (by kernel_rfl) trivial fun a118 hA119 => ?_
      refine wl_end ?_
      exact JK84 a118 (Has.to (Has.keep hA119 [0, 12] rfl) (by rw [hb115]; rfl))
    · have hA120 := Has.to (L' := [(0, .int .i64 p0), (9, .bool true)]) hA83 (by rw [hb115])
      refine wl_run 7 3 [0, 12] hA120 rfl (L' := [(0, .int .i64 p0), (12, .bool true)]) (vs := []) (obl := []) (by kernel_rfl) trivial fun a122 hA123 => ?_
      refine wl_end ?_
      exact JK84 a122 (Has.to (Has.keep hA123 [0, 12] rfl) (by rw [hb115]; rfl))
  cases hb124 : (p0 == 0)
  · have hA125 := Has.to (L' := [(0, .int .i64 p0), (5, .bool false)]) hA72 (by rw [hb124])
    refine wl_run 3 3 [0, 8] hA125 rfl (L' := [(0, .int .i64 p0), (8, .bool (p0 == 3))]) (vs := []) (obl := []) (by kernel_rfl) trivial fun a127 hA128 => ?_
    refine wl_end ?_
    exact JK73 a127 (Has.to (Has.keep hA128 [0, 8] rfl) (by rw [hb124]; rfl))
  · have hA129 := Has.to (L' := [(0, .int .i64 p0), (5, .bool true)]) hA72 (by rw [hb124])
    refine wl_run 3 3 [0, 8] hA129 rfl (L' := [(0, .int .i64 p0), (8, .bool true)]) (vs := []) (obl := []) (by kernel_rfl) trivial fun a131 hA132 => ?_
    refine wl_end ?_
    exact JK73 a131 (Has.to (Has.keep hA132 [0, 8] rfl) (by rw [hb124]; rfl))

/-! bursary bursaryref07.Sup -/
def ref07_Sup_j1 (n : Nat) (v1579 : Int) (k_ref07_Sup_l6 : (Bool → Int → Option Int)) (v1675 : Bool) : Option Int :=
  k_ref07_Sup_l6 v1675 (IntKind.wrap .i64 (v1579 + 1))
def ref07_Sup_j2 (n : Nat) (v1578 : Bool) (v1579 : Int) (k_ref07_Sup_l6 : (Bool → Int → Option Int)) (p1726 : Bool) : Option Int :=
  cond p1726
    (ref07_Sup_j1 n v1579 (k_ref07_Sup_l6) false)
    (ref07_Sup_j1 n v1579 (k_ref07_Sup_l6) v1578)
def ref07_Sup_j3 (n : Nat) (v1347 : Int) (v1578 : Bool) (v1579 : Int) (k_ref07_Sup_l6 : (Bool → Int → Option Int)) (p1707 : Bool) : Option Int :=
  (cond p1707
  ((ref07_Covers n v1579 v1347).bind fun y1740 =>
  some (!y1740))
  (some false)).bind fun p1726 =>
  ref07_Sup_j2 n v1578 v1579 (k_ref07_Sup_l6) p1726
def ref07_Sup_l6 (n : Nat) (p0 : Int) (p1 : Int) (v1347 : Int) (k_ref07_Sup_l5 : (Int → Option Int)) : Nat → Bool → Int → Option Int
  | 0, _, _ => none
  | m1583 + 1, v1578, v1579 =>
    cond (decide (v1579 ≤ 6))
      ((ref07_Covers n v1579 p0).bind fun y1684 =>
      (cond y1684
  ((ref07_Covers n v1579 p1).bind fun y1757 =>
  some y1757)
  (some false)).bind fun p1707 =>
      ref07_Sup_j3 n v1347 v1578 v1579 (ref07_Sup_l6 n p0 p1 v1347 k_ref07_Sup_l5 m1583) p1707)
      (cond v1578
        (some v1347)
        (k_ref07_Sup_l5 (IntKind.wrap .i64 (v1347 + 1))))
def ref07_Sup_j4 (n : Nat) (p0 : Int) (p1 : Int) (v1347 : Int) (k_ref07_Sup_l5 : (Int → Option Int)) (p1385 : Bool) : Option Int :=
  ref07_Sup_l6 n p0 p1 v1347 (k_ref07_Sup_l5) n p1385 0
def ref07_Sup_l5 (n : Nat) (p0 : Int) (p1 : Int) : Nat → Int → Option Int
  | 0, _ => none
  | m1351 + 1, v1347 =>
    cond (decide (v1347 ≤ 6))
      ((ref07_Covers n v1347 p0).bind fun y1362 =>
      (cond y1362
  ((ref07_Covers n v1347 p1).bind fun y1783 =>
  some y1783)
  (some false)).bind fun p1385 =>
      ref07_Sup_j4 n p0 p1 v1347 (ref07_Sup_l5 n p0 p1 m1351) p1385)
      (some 5)
def ref07_Sup (n : Nat) (p0 : Int) (p1 : Int) : Option Int :=
  ref07_Sup_l5 n p0 p1 n 0
noncomputable def ref07_Sup_c0 : Code := bodyOf Try.f17
noncomputable def ref07_Sup_c1 : Code := seqL ref07_Sup_c0
noncomputable def ref07_Sup_c2 : Code := seqR ref07_Sup_c0
noncomputable def ref07_Sup_c1o : Array Oper := regO ref07_Sup_c1
noncomputable def ref07_Sup_c3 : Code := seqL ref07_Sup_c2
noncomputable def ref07_Sup_c4 : Code := seqR ref07_Sup_c2
noncomputable def ref07_Sup_c5 : Code := seqL ref07_Sup_c3
noncomputable def ref07_Sup_c6 : Code := seqR ref07_Sup_c3
noncomputable def ref07_Sup_c5o : Array Oper := regO ref07_Sup_c5
noncomputable def ref07_Sup_c7 : Code := blkB ref07_Sup_c6
noncomputable def ref07_Sup_c8 : Code := loopB ref07_Sup_c7
noncomputable def ref07_Sup_c9 : Code := seqL ref07_Sup_c8
noncomputable def ref07_Sup_c10 : Code := seqR ref07_Sup_c8
noncomputable def ref07_Sup_c11 : Code := seqL ref07_Sup_c9
noncomputable def ref07_Sup_c12 : Code := seqR ref07_Sup_c9
noncomputable def ref07_Sup_c11o : Array Oper := regO ref07_Sup_c11
noncomputable def ref07_Sup_c13 : Code := condT ref07_Sup_c12
noncomputable def ref07_Sup_c14 : Code := condE ref07_Sup_c12
noncomputable def ref07_Sup_c15 : Code := seqL ref07_Sup_c10
noncomputable def ref07_Sup_c16 : Code := seqR ref07_Sup_c10
noncomputable def ref07_Sup_c17 : Code := blkB ref07_Sup_c15
noncomputable def ref07_Sup_c18 : Code := seqL ref07_Sup_c17
noncomputable def ref07_Sup_c19 : Code := seqR ref07_Sup_c17
noncomputable def ref07_Sup_c18o : Array Oper := regO ref07_Sup_c18
noncomputable def ref07_Sup_c20 : Code := seqL ref07_Sup_c19
noncomputable def ref07_Sup_c21 : Code := seqR ref07_Sup_c19
noncomputable def ref07_Sup_c22 : Code := seqL ref07_Sup_c20
noncomputable def ref07_Sup_c23 : Code := seqR ref07_Sup_c20
noncomputable def ref07_Sup_c22o : Array Oper := regO ref07_Sup_c22
noncomputable def ref07_Sup_c24 : Code := blkB ref07_Sup_c23
noncomputable def ref07_Sup_c25 : Code := loopB ref07_Sup_c24
noncomputable def ref07_Sup_c26 : Code := seqL ref07_Sup_c25
noncomputable def ref07_Sup_c27 : Code := seqR ref07_Sup_c25
noncomputable def ref07_Sup_c28 : Code := seqL ref07_Sup_c26
noncomputable def ref07_Sup_c29 : Code := seqR ref07_Sup_c26
noncomputable def ref07_Sup_c28o : Array Oper := regO ref07_Sup_c28
noncomputable def ref07_Sup_c30 : Code := condT ref07_Sup_c29
noncomputable def ref07_Sup_c31 : Code := condE ref07_Sup_c29
noncomputable def ref07_Sup_c32 : Code := seqL ref07_Sup_c27
noncomputable def ref07_Sup_c33 : Code := seqR ref07_Sup_c27
noncomputable def ref07_Sup_c33o : Array Oper := regO ref07_Sup_c33
noncomputable def ref07_Sup_c34 : Code := blkB ref07_Sup_c32
noncomputable def ref07_Sup_c35 : Code := seqL ref07_Sup_c34
noncomputable def ref07_Sup_c36 : Code := seqR ref07_Sup_c34
noncomputable def ref07_Sup_c35o : Array Oper := regO ref07_Sup_c35
noncomputable def ref07_Sup_c37 : Code := condT ref07_Sup_c36
noncomputable def ref07_Sup_c38 : Code := condE ref07_Sup_c36
noncomputable def ref07_Sup_c37o : Array Oper := regO ref07_Sup_c37
noncomputable def ref07_Sup_c39 : Code := seqL ref07_Sup_c21
noncomputable def ref07_Sup_c40 : Code := seqR ref07_Sup_c21
noncomputable def ref07_Sup_c39o : Array Oper := regO ref07_Sup_c39
noncomputable def ref07_Sup_c41 : Code := condT ref07_Sup_c40
noncomputable def ref07_Sup_c42 : Code := condE ref07_Sup_c40
noncomputable def ref07_Sup_c43 : Code := seqL ref07_Sup_c41
noncomputable def ref07_Sup_c44 : Code := seqR ref07_Sup_c41
noncomputable def ref07_Sup_c43o : Array Oper := regO ref07_Sup_c43
noncomputable def ref07_Sup_c16o : Array Oper := regO ref07_Sup_c16
noncomputable def ref07_Sup_c45 : Code := seqL ref07_Sup_c4
noncomputable def ref07_Sup_c46 : Code := seqR ref07_Sup_c4
noncomputable def ref07_Sup_c45o : Array Oper := regO ref07_Sup_c45
theorem ref07_Sup_ok (n : Nat) (p0 : Int) (p1 : Int) (r : Int) (w : World)  (h : ref07_Sup n p0 p1 = some r) :
    Calls Try.prog 17 #[.int .i64 p0, .int .i64 p1] w fun e w' => e = .returned (.int .i64 r) ∧ Ext w w' := by
  unfold ref07_Sup at h
  refine enter 40 Try.func17 rfl (by kernel_rfl) (by simp) fun a hA => ?_
  change ref07_Sup_c0.wp _ _ _ _
  refine c_seq ref07_Sup_c1 ref07_Sup_c2 (by kernel_rfl) fun K897 hK897 => ?_
  refine c_region ref07_Sup_c1o 1 (by kernel_rfl) (by kernel_rfl) ?_
  refine wl_run 0 1 [0, 1] hA rfl (L' := [(0, .int .i64 p0), (1, .int .i64 p1)]) (vs := []) (obl := []) (by kernel_rfl) trivial fun a898 hA899 => ?_
  refine wl_end ?_
  refine hK897 _ _ ?_
  refine c_seq ref07_Sup_c3 ref07_Sup_c4 (by kernel_rfl) fun K900 hK900 => ?_
  refine c_seq ref07_Sup_c5 ref07_Sup_c6 (by kernel_rfl) fun K901 hK901 => ?_
  refine c_region ref07_Sup_c5o 1 (by kernel_rfl) (by kernel_rfl) ?_
  refine wl_run 0 1 [0, 1, 5] hA899 rfl (L' := [(0, .int .i64 p0), (1, .int .i64 p1), (5, .int .i64 0)]) (vs := []) (obl := []) (by kernel_rfl) trivial fun a902 hA903 => ?_
  refine wl_end ?_
  refine hK901 _ _ ?_
  refine c_block 0 ref07_Sup_c7 (by kernel_rfl) ?_
  refine c_loop ref07_Sup_c8 (by kernel_rfl) (fun m1351 a1349 w1346 => ∃ (v1347 : Int), ref07_Sup_l5 n p0 p1 m1351 v1347 = some r ∧ Ext w w1346 ∧ Has a1349 40 [(0, .int .i64 p0), (1, .int .i64 p1), (5, .int .i64 v1347)]) n ⟨0, h, (Ext.refl _), (Has.keep hA903 [0, 1, 5] rfl)⟩ ?_
  rintro m1351 a1349 w1346 ⟨v1347, h, ex1348, hA1350⟩ K1352 hK1352
  cases m1351 with
  | zero => exact (noneS h).elim
  | succ m1351 =>
    unfold ref07_Sup_l5 at h
    refine c_seq ref07_Sup_c9 ref07_Sup_c10 (by kernel_rfl) fun K1353 hK1353 => ?_
    refine c_seq ref07_Sup_c11 ref07_Sup_c12 (by kernel_rfl) fun K1354 hK1354 => ?_
    refine c_region ref07_Sup_c11o 2 (by kernel_rfl) (by kernel_rfl) ?_
    refine wl_run 0 2 [0, 1, 5, 9] hA1350 rfl (L' := [(0, .int .i64 p0), (1, .int .i64 p1), (5, .int .i64 v1347), (9, .bool (decide (v1347 ≤ 6)))]) (vs := []) (obl := []) (by kernel_rfl) trivial fun a1355 hA1356 => ?_
    refine wl_end ?_
    refine hK1354 _ _ ?_
    refine c_cond ref07_Sup_c13 ref07_Sup_c14 (condX ref07_Sup_c12) (decide (v1347 ≤ 6)) hA1356 (by kernel_rfl) (by kernel_rfl) (by kernel_rfl) (fun hb1357 => ?_) (fun hb1357 => ?_)
    · replace h := ctrue hb1357 h
      refine c_skip (by kernel_rfl) ?_
      refine hK1353 _ _ ?_
      refine c_seq ref07_Sup_c15 ref07_Sup_c16 (by kernel_rfl) fun K1358 hK1358 => ?_
      refine c_block 1 ref07_Sup_c17 (by kernel_rfl) ?_
      refine c_seq ref07_Sup_c18 ref07_Sup_c19 (by kernel_rfl) fun K1359 hK1359 => ?_
      refine c_region ref07_Sup_c18o 9 (by kernel_rfl) (by kernel_rfl) ?_
      refine wl_run 0 2 [0, 1, 5, 12, 13] hA1356 rfl (L' := [(0, .int .i64 p0), (1, .int .i64 p1), (5, .int .i64 v1347), (12, .int .i64 v1347), (13, .int .i64 p0)]) (vs := []) (obl := []) (by kernel_rfl) trivial fun a1360 hA1361 => ?_
      obtain ⟨y1362, hy1362, h⟩ := bindS h
      refine wl_call 2 rfl (d := some 14) (g := 13) (args := #[.int .i64 v1347, .int .i64 p0]) hA1361 (by kernel_rfl) Try.call13 (ref07_Covers_ok n _ _ y1362 w1346 hy1362) ?_
      rintro e w1363 ⟨rfl, ex1364⟩
      refine ⟨_, rfl, fun a1365 hA1366 => ?_⟩
      refine wl_run 3 1 [0, 1, 5, 15] hA1366 rfl (L' := [(0, .int .i64 p0), (1, .int .i64 p1), (5, .int .i64 v1347), (15, .bool y1362)]) (vs := []) (obl := []) (by kernel_rfl) trivial fun a1367 hA1368 => ?_
      refine wl_cut 8 rfl rfl fun K1369 hK1369 => ?_
      have JK1369 : ∀ (p1385 : Bool) (a1382 : Act) (w1381 : World), Ext w1363 w1381 → Has a1382 40 [(0, .int .i64 p0), (1, .int .i64 p1), (5, .int .i64 v1347), (19, .bool p1385)] → ref07_Sup_j4 n p0 p1 v1347 (ref07_Sup_l5 n p0 p1 m1351) p1385 = some r → K1369 a1382 w1381 := by
        intro p1385 a1382 w1381 ex1384 hA1383 h
        unfold ref07_Sup_j4 at h
        refine hK1369 _ _ ?_
        refine wl_run 8 1 [0, 1, 5, 6] hA1383 rfl (L' := [(0, .int .i64 p0), (1, .int .i64 p1), (5, .int .i64 v1347), (6, .bool p1385)]) (vs := []) (obl := []) (by kernel_rfl) trivial fun a1386 hA1387 => ?_
        refine wl_end ?_
        refine hK1359 _ _ ?_
        refine c_seq ref07_Sup_c20 ref07_Sup_c21 (by kernel_rfl) fun K1388 hK1388 => ?_
        refine c_seq ref07_Sup_c22 ref07_Sup_c23 (by kernel_rfl) fun K1389 hK1389 => ?_
        refine c_region ref07_Sup_c22o 1 (by kernel_rfl) (by kernel_rfl) ?_
        refine wl_run 0 1 [0, 1, 5, 6, 7] hA1387 rfl (L' := [(0, .int .i64 p0), (1, .int .i64 p1), (5, .int .i64 v1347), (6, .bool p1385), (7, .int .i64 0)]) (vs := []) (obl := []) (by kernel_rfl) trivial fun a1390 hA1391 => ?_
        refine wl_end ?_
        refine hK1389 _ _ ?_
        refine c_block 2 ref07_Sup_c24 (by kernel_rfl) ?_
        refine c_loop ref07_Sup_c25 (by kernel_rfl) (fun m1583 a1581 w1577 => ∃ (v1578 : Bool) (v1579 : Int), ref07_Sup_l6 n p0 p1 v1347 (ref07_Sup_l5 n p0 p1 m1351) m1583 v1578 v1579 = some r ∧ Ext w1381 w1577 ∧ Has a1581 40 [(0, .int .i64 p0), (1, .int .i64 p1), (5, .int .i64 v1347), (6, .bool v1578), (7, .int .i64 v1579)]) n ⟨p1385, 0, h, (Ext.refl _), (Has.keep hA1391 [0, 1, 5, 6, 7] rfl)⟩ ?_
        rintro m1583 a1581 w1577 ⟨v1578, v1579, h, ex1580, hA1582⟩ K1584 hK1584
        cases m1583 with
        | zero => exact (noneS h).elim
        | succ m1583 =>
          unfold ref07_Sup_l6 at h
          refine c_seq ref07_Sup_c26 ref07_Sup_c27 (by kernel_rfl) fun K1585 hK1585 => ?_
          refine c_seq ref07_Sup_c28 ref07_Sup_c29 (by kernel_rfl) fun K1586 hK1586 => ?_
          refine c_region ref07_Sup_c28o 2 (by kernel_rfl) (by kernel_rfl) ?_
          refine wl_run 0 2 [0, 1, 5, 6, 7, 21] hA1582 rfl (L' := [(0, .int .i64 p0), (1, .int .i64 p1), (5, .int .i64 v1347), (6, .bool v1578), (7, .int .i64 v1579), (21, .bool (decide (v1579 ≤ 6)))]) (vs := []) (obl := []) (by kernel_rfl) trivial fun a1587 hA1588 => ?_
          refine wl_end ?_
          refine hK1586 _ _ ?_
          refine c_cond ref07_Sup_c30 ref07_Sup_c31 (condX ref07_Sup_c29) (decide (v1579 ≤ 6)) hA1588 (by kernel_rfl) (by kernel_rfl) (by kernel_rfl) (fun hb1589 => ?_) (fun hb1589 => ?_)
          · replace h := ctrue hb1589 h
            refine c_skip (by kernel_rfl) ?_
            refine hK1585 _ _ ?_
            refine c_seq ref07_Sup_c32 ref07_Sup_c33 (by kernel_rfl) fun K1590 hK1590 => ?_
            have JK1590 : ∀ (v1675 : Bool) (a1677 : Act) (w1674 : World) (ex1676 : Ext w1577 w1674) (hA1678 : Has a1677 40 [(0, .int .i64 p0), (1, .int .i64 p1), (5, .int .i64 v1347), (6, .bool v1675), (7, .int .i64 v1579)]), ref07_Sup_j1 n v1579 (ref07_Sup_l6 n p0 p1 v1347 (ref07_Sup_l5 n p0 p1 m1351) m1583) v1675 = some r → K1590 a1677 w1674 := by
              intro v1675 a1677 w1674 ex1676 hA1678 h
              unfold ref07_Sup_j1 at h
              refine hK1590 _ _ ?_
              refine c_region ref07_Sup_c33o 3 (by kernel_rfl) (by kernel_rfl) ?_
              refine wl_run 0 3 [0, 1, 5, 6, 7] hA1678 rfl (L' := [(0, .int .i64 p0), (1, .int .i64 p1), (5, .int .i64 v1347), (6, .bool v1675), (7, .int .i64 (IntKind.wrap .i64 (v1579 + 1)))]) (vs := []) (obl := []) (by kernel_rfl) trivial fun a1679 hA1680 => ?_
              refine wl_end ?_
              exact hK1584 m1583 _ _ (Nat.lt_succ_self _) ⟨v1675, (IntKind.wrap .i64 (v1579 + 1)), h, (Ext.trans ex1580 ex1676), (Has.keep hA1680 [0, 1, 5, 6, 7] rfl)⟩
            refine c_block 3 ref07_Sup_c34 (by kernel_rfl) ?_
            refine c_seq ref07_Sup_c35 ref07_Sup_c36 (by kernel_rfl) fun K1681 hK1681 => ?_
            refine c_region ref07_Sup_c35o 14 (by kernel_rfl) (by kernel_rfl) ?_
            refine wl_run 0 2 [0, 1, 5, 6, 7, 24, 25] hA1588 rfl (L' := [(0, .int .i64 p0), (1, .int .i64 p1), (5, .int .i64 v1347), (6, .bool v1578), (7, .int .i64 v1579), (24, .int .i64 v1579), (25, .int .i64 p0)]) (vs := []) (obl := []) (by kernel_rfl) trivial fun a1682 hA1683 => ?_
            obtain ⟨y1684, hy1684, h⟩ := bindS h
            refine wl_call 2 rfl (d := some 26) (g := 13) (args := #[.int .i64 v1579, .int .i64 p0]) hA1683 (by kernel_rfl) Try.call13 (ref07_Covers_ok n _ _ y1684 w1577 hy1684) ?_
            rintro e w1685 ⟨rfl, ex1686⟩
            refine ⟨_, rfl, fun a1687 hA1688 => ?_⟩
            refine wl_run 3 1 [0, 1, 5, 6, 7, 27] hA1688 rfl (L' := [(0, .int .i64 p0), (1, .int .i64 p1), (5, .int .i64 v1347), (6, .bool v1578), (7, .int .i64 v1579), (27, .bool y1684)]) (vs := []) (obl := []) (by kernel_rfl) trivial fun a1689 hA1690 => ?_
            refine wl_cut 8 rfl rfl fun K1691 hK1691 => ?_
            have JK1691 : ∀ (p1707 : Bool) (a1704 : Act) (w1703 : World), Ext w1685 w1703 → Has a1704 40 [(0, .int .i64 p0), (1, .int .i64 p1), (5, .int .i64 v1347), (6, .bool v1578), (7, .int .i64 v1579), (31, .bool p1707)] → ref07_Sup_j3 n v1347 v1578 v1579 (ref07_Sup_l6 n p0 p1 v1347 (ref07_Sup_l5 n p0 p1 m1351) m1583) p1707 = some r → K1691 a1704 w1703 := by
              intro p1707 a1704 w1703 ex1706 hA1705 h
              unfold ref07_Sup_j3 at h
              refine hK1691 _ _ ?_
              refine wl_run 8 1 [0, 1, 5, 6, 7, 32] hA1705 rfl (L' := [(0, .int .i64 p0), (1, .int .i64 p1), (5, .int .i64 v1347), (6, .bool v1578), (7, .int .i64 v1579), (32, .bool p1707)]) (vs := []) (obl := []) (by kernel_rfl) trivial fun a1708 hA1709 => ?_
              refine wl_cut 14 rfl rfl fun K1710 hK1710 => ?_
              have JK1710 : ∀ (p1726 : Bool) (a1723 : Act) (w1722 : World), Ext w1703 w1722 → Has a1723 40 [(0, .int .i64 p0), (1, .int .i64 p1), (5, .int .i64 v1347), (6, .bool v1578), (7, .int .i64 v1579), (37, .bool p1726)] → ref07_Sup_j2 n v1578 v1579 (ref07_Sup_l6 n p0 p1 v1347 (ref07_Sup_l5 n p0 p1 m1351) m1583) p1726 = some r → K1710 a1723 w1722 := by
                intro p1726 a1723 w1722 ex1725 hA1724 h
                unfold ref07_Sup_j2 at h
                refine hK1710 _ _ ?_
                refine wl_end ?_
                refine hK1681 _ _ ?_
                refine c_cond ref07_Sup_c37 ref07_Sup_c38 (condX ref07_Sup_c36) p1726 hA1724 (by kernel_rfl) (by kernel_rfl) (by kernel_rfl) (fun hb1727 => ?_) (fun hb1727 => ?_)
                · replace h := ctrue hb1727 h
                  refine c_region ref07_Sup_c37o 1 (by kernel_rfl) (by kernel_rfl) ?_
                  refine wl_run 0 1 [0, 1, 5, 6, 7] hA1724 rfl (L' := [(0, .int .i64 p0), (1, .int .i64 p1), (5, .int .i64 v1347), (6, .bool false), (7, .int .i64 v1579)]) (vs := []) (obl := []) (by kernel_rfl) trivial fun a1728 hA1729 => ?_
                  refine wl_end ?_
                  exact JK1590 false a1728 w1722 (Ext.trans (Ext.trans ex1686 ex1706) ex1725) (Has.keep hA1729 [0, 1, 5, 6, 7] rfl) h
                · replace h := cfalse hb1727 h
                  refine c_skip (by kernel_rfl) ?_
                  exact JK1590 v1578 a1723 w1722 (Ext.trans (Ext.trans ex1686 ex1706) ex1725) (Has.keep hA1724 [0, 1, 5, 6, 7] rfl) h
              obtain ⟨p1726, hv1731, h⟩ := bindS h
              cases hb1730 : p1707
              · have hA1732 := Has.to (L' := [(0, .int .i64 p0), (1, .int .i64 p1), (5, .int .i64 v1347), (6, .bool v1578), (7, .int .i64 v1579), (32, .bool false)]) hA1709 (by rw [hb1730])
                replace hv1731 := cfalse hb1730 hv1731
                have hk1733 := h
                clear h
                have h := hv1731
                refine wl_run 9 5 [0, 1, 5, 6, 7, 33, 34, 35, 36, 37] hA1732 rfl (L' := [(0, .int .i64 p0), (1, .int .i64 p1), (5, .int .i64 v1347), (6, .bool v1578), (7, .int .i64 v1579), (33, undef), (34, undef), (35, undef), (36, undef), (37, .bool false)]) (vs := []) (obl := []) (by kernel_rfl) trivial fun a1734 hA1735 => ?_
                refine wl_end ?_
                obtain rfl := someI h
                exact JK1710 _ a1734 w1703 (Ext.refl _) (Has.keep hA1735 [0, 1, 5, 6, 7, 37] rfl) hk1733
              · have hA1736 := Has.to (L' := [(0, .int .i64 p0), (1, .int .i64 p1), (5, .int .i64 v1347), (6, .bool v1578), (7, .int .i64 v1579), (32, .bool true)]) hA1709 (by rw [hb1730])
                replace hv1731 := ctrue hb1730 hv1731
                have hk1737 := h
                clear h
                have h := hv1731
                refine wl_run 9 2 [0, 1, 5, 6, 7, 32, 33, 34] hA1736 rfl (L' := [(0, .int .i64 p0), (1, .int .i64 p1), (5, .int .i64 v1347), (6, .bool v1578), (7, .int .i64 v1579), (32, .bool true), (33, .int .i64 v1579), (34, .int .i64 v1347)]) (vs := []) (obl := []) (by kernel_rfl) trivial fun a1738 hA1739 => ?_
                obtain ⟨y1740, hy1740, h⟩ := bindS h
                refine wl_call 11 rfl (d := some 35) (g := 13) (args := #[.int .i64 v1579, .int .i64 v1347]) hA1739 (by kernel_rfl) Try.call13 (ref07_Covers_ok n _ _ y1740 w1703 hy1740) ?_
                rintro e w1741 ⟨rfl, ex1742⟩
                refine ⟨_, rfl, fun a1743 hA1744 => ?_⟩
                refine wl_run 12 2 [0, 1, 5, 6, 7, 33, 34, 35, 36, 37] hA1744 rfl (L' := [(0, .int .i64 p0), (1, .int .i64 p1), (5, .int .i64 v1347), (6, .bool v1578), (7, .int .i64 v1579), (33, .int .i64 v1579), (34, .int .i64 v1347), (35, .bool y1740), (36, .bool (!y1740)), (37, .bool (!y1740))]) (vs := []) (obl := []) (by kernel_rfl) trivial fun a1745 hA1746 => ?_
                refine wl_end ?_
                obtain rfl := someI h
                exact JK1710 _ a1745 w1741 ex1742 (Has.keep hA1746 [0, 1, 5, 6, 7, 37] rfl) hk1737
            obtain ⟨p1707, hv1748, h⟩ := bindS h
            cases hb1747 : y1684
            · have hA1749 := Has.to (L' := [(0, .int .i64 p0), (1, .int .i64 p1), (5, .int .i64 v1347), (6, .bool v1578), (7, .int .i64 v1579), (27, .bool false)]) hA1690 (by rw [hb1747])
              replace hv1748 := cfalse hb1747 hv1748
              have hk1750 := h
              clear h
              have h := hv1748
              refine wl_run 4 4 [0, 1, 5, 6, 7, 28, 29, 30, 31] hA1749 rfl (L' := [(0, .int .i64 p0), (1, .int .i64 p1), (5, .int .i64 v1347), (6, .bool v1578), (7, .int .i64 v1579), (28, undef), (29, undef), (30, undef), (31, .bool false)]) (vs := []) (obl := []) (by kernel_rfl) trivial fun a1751 hA1752 => ?_
              refine wl_end ?_
              obtain rfl := someI h
              exact JK1691 _ a1751 w1685 (Ext.refl _) (Has.keep hA1752 [0, 1, 5, 6, 7, 31] rfl) hk1750
            · have hA1753 := Has.to (L' := [(0, .int .i64 p0), (1, .int .i64 p1), (5, .int .i64 v1347), (6, .bool v1578), (7, .int .i64 v1579), (27, .bool true)]) hA1690 (by rw [hb1747])
              replace hv1748 := ctrue hb1747 hv1748
              have hk1754 := h
              clear h
              have h := hv1748
              refine wl_run 4 2 [0, 1, 5, 6, 7, 27, 28, 29] hA1753 rfl (L' := [(0, .int .i64 p0), (1, .int .i64 p1), (5, .int .i64 v1347), (6, .bool v1578), (7, .int .i64 v1579), (27, .bool true), (28, .int .i64 v1579), (29, .int .i64 p1)]) (vs := []) (obl := []) (by kernel_rfl) trivial fun a1755 hA1756 => ?_
              obtain ⟨y1757, hy1757, h⟩ := bindS h
              refine wl_call 6 rfl (d := some 30) (g := 13) (args := #[.int .i64 v1579, .int .i64 p1]) hA1756 (by kernel_rfl) Try.call13 (ref07_Covers_ok n _ _ y1757 w1685 hy1757) ?_
              rintro e w1758 ⟨rfl, ex1759⟩
              refine ⟨_, rfl, fun a1760 hA1761 => ?_⟩
              refine wl_run 7 1 [0, 1, 5, 6, 7, 28, 29, 30, 31] hA1761 rfl (L' := [(0, .int .i64 p0), (1, .int .i64 p1), (5, .int .i64 v1347), (6, .bool v1578), (7, .int .i64 v1579), (28, .int .i64 v1579), (29, .int .i64 p1), (30, .bool y1757), (31, .bool y1757)]) (vs := []) (obl := []) (by kernel_rfl) trivial fun a1762 hA1763 => ?_
              refine wl_end ?_
              obtain rfl := someI h
              exact JK1691 _ a1762 w1758 ex1759 (Has.keep hA1763 [0, 1, 5, 6, 7, 31] rfl) hk1754
          · replace h := cfalse hb1589 h
            refine c_exit 2 (by kernel_rfl) ?_
            refine hK1388 _ _ ?_
            refine c_seq ref07_Sup_c39 ref07_Sup_c40 (by kernel_rfl) fun K1764 hK1764 => ?_
            refine c_region ref07_Sup_c39o 1 (by kernel_rfl) (by kernel_rfl) ?_
            refine wl_run 0 1 [0, 1, 5, 38] hA1588 rfl (L' := [(0, .int .i64 p0), (1, .int .i64 p1), (5, .int .i64 v1347), (38, .bool v1578)]) (vs := []) (obl := []) (by kernel_rfl) trivial fun a1765 hA1766 => ?_
            refine wl_end ?_
            refine hK1764 _ _ ?_
            refine c_cond ref07_Sup_c41 ref07_Sup_c42 (condX ref07_Sup_c40) v1578 hA1766 (by kernel_rfl) (by kernel_rfl) (by kernel_rfl) (fun hb1767 => ?_) (fun hb1767 => ?_)
            · replace h := ctrue hb1767 h
              refine c_seq ref07_Sup_c43 ref07_Sup_c44 (by kernel_rfl) fun K1768 hK1768 => ?_
              refine c_region ref07_Sup_c43o 2 (by kernel_rfl) (by kernel_rfl) ?_
              refine wl_run 0 2 [4] hA1766 rfl (L' := [(4, .int .i64 v1347)]) (vs := []) (obl := []) (by kernel_rfl) trivial fun a1769 hA1770 => ?_
              refine wl_end ?_
              refine hK1768 _ _ ?_
              refine c_ret (by kernel_rfl) ?_
              obtain rfl := someI h
              try simp only [Exit.then, Exit.inBlock]
              refine ret1 hA1770 4 _ (by kernel_rfl) rfl rfl ?_
              exact ⟨rfl, (Ext.trans (Ext.trans (Ext.trans ex1348 ex1364) ex1384) ex1580)⟩
            · replace h := cfalse hb1767 h
              refine c_skip (by kernel_rfl) ?_
              refine hK1358 _ _ ?_
              refine c_region ref07_Sup_c16o 3 (by kernel_rfl) (by kernel_rfl) ?_
              refine wl_run 0 3 [0, 1, 5] hA1766 rfl (L' := [(0, .int .i64 p0), (1, .int .i64 p1), (5, .int .i64 (IntKind.wrap .i64 (v1347 + 1)))]) (vs := []) (obl := []) (by kernel_rfl) trivial fun a1771 hA1772 => ?_
              refine wl_end ?_
              exact hK1352 m1351 _ _ (Nat.lt_succ_self _) ⟨(IntKind.wrap .i64 (v1347 + 1)), h, (Ext.trans (Ext.trans (Ext.trans ex1348 ex1364) ex1384) ex1580), (Has.keep hA1772 [0, 1, 5] rfl)⟩
      obtain ⟨p1385, hv1774, h⟩ := bindS h
      cases hb1773 : y1362
      · have hA1775 := Has.to (L' := [(0, .int .i64 p0), (1, .int .i64 p1), (5, .int .i64 v1347), (15, .bool false)]) hA1368 (by rw [hb1773])
        replace hv1774 := cfalse hb1773 hv1774
        have hk1776 := h
        clear h
        have h := hv1774
        refine wl_run 4 4 [0, 1, 5, 16, 17, 18, 19] hA1775 rfl (L' := [(0, .int .i64 p0), (1, .int .i64 p1), (5, .int .i64 v1347), (16, undef), (17, undef), (18, undef), (19, .bool false)]) (vs := []) (obl := []) (by kernel_rfl) trivial fun a1777 hA1778 => ?_
        refine wl_end ?_
        obtain rfl := someI h
        exact JK1369 _ a1777 w1363 (Ext.refl _) (Has.keep hA1778 [0, 1, 5, 19] rfl) hk1776
      · have hA1779 := Has.to (L' := [(0, .int .i64 p0), (1, .int .i64 p1), (5, .int .i64 v1347), (15, .bool true)]) hA1368 (by rw [hb1773])
        replace hv1774 := ctrue hb1773 hv1774
        have hk1780 := h
        clear h
        have h := hv1774
        refine wl_run 4 2 [0, 1, 5, 15, 16, 17] hA1779 rfl (L' := [(0, .int .i64 p0), (1, .int .i64 p1), (5, .int .i64 v1347), (15, .bool true), (16, .int .i64 v1347), (17, .int .i64 p1)]) (vs := []) (obl := []) (by kernel_rfl) trivial fun a1781 hA1782 => ?_
        obtain ⟨y1783, hy1783, h⟩ := bindS h
        refine wl_call 6 rfl (d := some 18) (g := 13) (args := #[.int .i64 v1347, .int .i64 p1]) hA1782 (by kernel_rfl) Try.call13 (ref07_Covers_ok n _ _ y1783 w1363 hy1783) ?_
        rintro e w1784 ⟨rfl, ex1785⟩
        refine ⟨_, rfl, fun a1786 hA1787 => ?_⟩
        refine wl_run 7 1 [0, 1, 5, 16, 17, 18, 19] hA1787 rfl (L' := [(0, .int .i64 p0), (1, .int .i64 p1), (5, .int .i64 v1347), (16, .int .i64 v1347), (17, .int .i64 p1), (18, .bool y1783), (19, .bool y1783)]) (vs := []) (obl := []) (by kernel_rfl) trivial fun a1788 hA1789 => ?_
        refine wl_end ?_
        obtain rfl := someI h
        exact JK1369 _ a1788 w1784 ex1785 (Has.keep hA1789 [0, 1, 5, 19] rfl) hk1780
    · replace h := cfalse hb1357 h
      refine c_exit 0 (by kernel_rfl) ?_
      refine hK900 _ _ ?_
      refine c_seq ref07_Sup_c45 ref07_Sup_c46 (by kernel_rfl) fun K1790 hK1790 => ?_
      refine c_region ref07_Sup_c45o 1 (by kernel_rfl) (by kernel_rfl) ?_
      refine wl_run 0 1 [4] hA1356 rfl (L' := [(4, .int .i64 5)]) (vs := []) (obl := []) (by kernel_rfl) trivial fun a1791 hA1792 => ?_
      refine wl_end ?_
      refine hK1790 _ _ ?_
      refine c_ret (by kernel_rfl) ?_
      obtain rfl := someI h
      try simp only [Exit.then, Exit.inBlock]
      refine ret1 hA1792 4 _ (by kernel_rfl) rfl rfl ?_
      exact ⟨rfl, ex1348⟩

/-! bursary bursarylaw07.ModePairs -/
def law07_ModePairs_j1 (n : Nat)  (p638 : Bool) : Option Bool :=
  some p638
def law07_ModePairs_j2 (n : Nat) (p0 : Int) (p1 : Int) (y404 : (Int × Int)) (p592 : Bool) : Option Bool :=
  cond p592
    (some ((y404.1 == 0) && (y404.2 == 2)))
    ((cond (y404.2 == 0)
  ((ref07_Sup n p0 p1).bind fun y651 =>
  some (y404.1 == y651))
  (some false)).bind fun p638 =>
    law07_ModePairs_j1 n p638)
def law07_ModePairs_j3 (n : Nat)  (p691 : Bool) : Option Bool :=
  some (!p691)
def law07_ModePairs_j4 (n : Nat) (p0 : Int) (p1 : Int) (y404 : (Int × Int)) (p537 : Bool) : Option Bool :=
  (cond (!p537)
  ((ref07_Keys n p0).bind fun y668 =>
  (cond y668
  ((ref07_Keys n p1).bind fun y704 =>
  some y704)
  (some false)).bind fun p691 =>
  law07_ModePairs_j3 n p691)
  (some false)).bind fun p592 =>
  law07_ModePairs_j2 n p0 p1 y404 p592
def law07_ModePairs_j5 (n : Nat) (p0 : Int) (p1 : Int) (y404 : (Int × Int)) (p484 : Bool) : Option Bool :=
  cond p484
    (some ((y404.1 == 0) && (y404.2 == 170)))
    ((ref07_Tables n p0).bind fun y514 =>
    (cond y514
  ((ref07_Tables n p1).bind fun y721 =>
  some y721)
  (some false)).bind fun p537 =>
    law07_ModePairs_j4 n p0 p1 y404 p537)
def law07_ModePairs_j6 (n : Nat) (p0 : Int) (p1 : Int) (y404 : (Int × Int)) (p452 : Bool) : Option Bool :=
  cond p452
    (some false)
    ((ref07_Is n p0).bind fun y461 =>
    (cond (!y461)
  (some true)
  ((ref07_Is n p1).bind fun y734 =>
  some (!y734))).bind fun p484 =>
    law07_ModePairs_j5 n p0 p1 y404 p484)
def law07_ModePairs (n : Nat) (p0 : Int) (p1 : Int) : Option Bool :=
  (law07_wakes n).bind fun y390 =>
  cond (!y390)
    (some false)
    ((mode_Sup n p0 p1).bind fun y404 =>
    (mode_Goes n p0 p1).bind fun y415 =>
    (ref07_Goes n p0 p1).bind fun y422 =>
    (cond (!(y415 == y422))
  (some true)
  ((mode_Covers n p0 p1).bind fun y751 =>
  (ref07_Covers n p0 p1).bind fun y758 =>
  some (!(y751 == y758)))).bind fun p452 =>
    law07_ModePairs_j6 n p0 p1 y404 p452)
noncomputable def law07_ModePairs_c0 : Code := bodyOf Try.f3
noncomputable def law07_ModePairs_c1 : Code := seqL law07_ModePairs_c0
noncomputable def law07_ModePairs_c2 : Code := seqR law07_ModePairs_c0
noncomputable def law07_ModePairs_c1o : Array Oper := regO law07_ModePairs_c1
noncomputable def law07_ModePairs_c3 : Code := seqL law07_ModePairs_c2
noncomputable def law07_ModePairs_c4 : Code := seqR law07_ModePairs_c2
noncomputable def law07_ModePairs_c5 : Code := seqL law07_ModePairs_c3
noncomputable def law07_ModePairs_c6 : Code := seqR law07_ModePairs_c3
noncomputable def law07_ModePairs_c5o : Array Oper := regO law07_ModePairs_c5
noncomputable def law07_ModePairs_c7 : Code := condT law07_ModePairs_c6
noncomputable def law07_ModePairs_c8 : Code := condE law07_ModePairs_c6
noncomputable def law07_ModePairs_c9 : Code := seqL law07_ModePairs_c7
noncomputable def law07_ModePairs_c10 : Code := seqR law07_ModePairs_c7
noncomputable def law07_ModePairs_c9o : Array Oper := regO law07_ModePairs_c9
noncomputable def law07_ModePairs_c11 : Code := seqL law07_ModePairs_c4
noncomputable def law07_ModePairs_c12 : Code := seqR law07_ModePairs_c4
noncomputable def law07_ModePairs_c11o : Array Oper := regO law07_ModePairs_c11
noncomputable def law07_ModePairs_c13 : Code := seqL law07_ModePairs_c12
noncomputable def law07_ModePairs_c14 : Code := seqR law07_ModePairs_c12
noncomputable def law07_ModePairs_c15 : Code := seqL law07_ModePairs_c13
noncomputable def law07_ModePairs_c16 : Code := seqR law07_ModePairs_c13
noncomputable def law07_ModePairs_c15o : Array Oper := regO law07_ModePairs_c15
noncomputable def law07_ModePairs_c17 : Code := condT law07_ModePairs_c16
noncomputable def law07_ModePairs_c18 : Code := condE law07_ModePairs_c16
noncomputable def law07_ModePairs_c19 : Code := seqL law07_ModePairs_c17
noncomputable def law07_ModePairs_c20 : Code := seqR law07_ModePairs_c17
noncomputable def law07_ModePairs_c19o : Array Oper := regO law07_ModePairs_c19
noncomputable def law07_ModePairs_c21 : Code := seqL law07_ModePairs_c14
noncomputable def law07_ModePairs_c22 : Code := seqR law07_ModePairs_c14
noncomputable def law07_ModePairs_c23 : Code := blkB law07_ModePairs_c21
noncomputable def law07_ModePairs_c24 : Code := seqL law07_ModePairs_c23
noncomputable def law07_ModePairs_c25 : Code := seqR law07_ModePairs_c23
noncomputable def law07_ModePairs_c24o : Array Oper := regO law07_ModePairs_c24
noncomputable def law07_ModePairs_c26 : Code := condT law07_ModePairs_c25
noncomputable def law07_ModePairs_c27 : Code := condE law07_ModePairs_c25
noncomputable def law07_ModePairs_c28 : Code := seqL law07_ModePairs_c26
noncomputable def law07_ModePairs_c29 : Code := seqR law07_ModePairs_c26
noncomputable def law07_ModePairs_c28o : Array Oper := regO law07_ModePairs_c28
noncomputable def law07_ModePairs_c30 : Code := seqL law07_ModePairs_c27
noncomputable def law07_ModePairs_c31 : Code := seqR law07_ModePairs_c27
noncomputable def law07_ModePairs_c30o : Array Oper := regO law07_ModePairs_c30
noncomputable def law07_ModePairs_c32 : Code := condT law07_ModePairs_c31
noncomputable def law07_ModePairs_c33 : Code := condE law07_ModePairs_c31
noncomputable def law07_ModePairs_c34 : Code := seqL law07_ModePairs_c32
noncomputable def law07_ModePairs_c35 : Code := seqR law07_ModePairs_c32
noncomputable def law07_ModePairs_c34o : Array Oper := regO law07_ModePairs_c34
noncomputable def law07_ModePairs_c36 : Code := seqL law07_ModePairs_c22
noncomputable def law07_ModePairs_c37 : Code := seqR law07_ModePairs_c22
noncomputable def law07_ModePairs_c36o : Array Oper := regO law07_ModePairs_c36
theorem law07_ModePairs_ok (n : Nat) (p0 : Int) (p1 : Int) (r : Bool) (w : World)  (h : law07_ModePairs n p0 p1 = some r) :
    Calls Try.prog 3 #[.int .i64 p0, .int .i64 p1] w fun e w' => e = .returned (.bool r) ∧ Ext w w' := by
  unfold law07_ModePairs at h
  refine enter 78 Try.func3 rfl (by kernel_rfl) (by simp) fun a hA => ?_
  change law07_ModePairs_c0.wp _ _ _ _
  refine c_seq law07_ModePairs_c1 law07_ModePairs_c2 (by kernel_rfl) fun K385 hK385 => ?_
  refine c_region law07_ModePairs_c1o 1 (by kernel_rfl) (by kernel_rfl) ?_
  refine wl_run 0 1 [0, 1] hA rfl (L' := [(0, .int .i64 p0), (1, .int .i64 p1)]) (vs := []) (obl := []) (by kernel_rfl) trivial fun a386 hA387 => ?_
  refine wl_end ?_
  refine hK385 _ _ ?_
  refine c_seq law07_ModePairs_c3 law07_ModePairs_c4 (by kernel_rfl) fun K388 hK388 => ?_
  refine c_seq law07_ModePairs_c5 law07_ModePairs_c6 (by kernel_rfl) fun K389 hK389 => ?_
  refine c_region law07_ModePairs_c5o 2 (by kernel_rfl) (by kernel_rfl) ?_
  obtain ⟨y390, hy390, h⟩ := bindS h
  refine wl_call 0 rfl (d := some 7) (g := 8) (args := #[]) hA387 (by kernel_rfl) Try.call8 (law07_wakes_ok n y390 w hy390) ?_
  rintro e w391 ⟨rfl, ex392⟩
  refine ⟨_, rfl, fun a393 hA394 => ?_⟩
  refine wl_run 1 1 [0, 1, 8] hA394 rfl (L' := [(0, .int .i64 p0), (1, .int .i64 p1), (8, .bool (!y390))]) (vs := []) (obl := []) (by kernel_rfl) trivial fun a395 hA396 => ?_
  refine wl_end ?_
  refine hK389 _ _ ?_
  refine c_cond law07_ModePairs_c7 law07_ModePairs_c8 (condX law07_ModePairs_c6) (!y390) hA396 (by kernel_rfl) (by kernel_rfl) (by kernel_rfl) (fun hb397 => ?_) (fun hb397 => ?_)
  · replace h := ctrue hb397 h
    refine c_seq law07_ModePairs_c9 law07_ModePairs_c10 (by kernel_rfl) fun K398 hK398 => ?_
    refine c_region law07_ModePairs_c9o 1 (by kernel_rfl) (by kernel_rfl) ?_
    refine wl_run 0 1 [4] hA396 rfl (L' := [(4, .bool false)]) (vs := []) (obl := []) (by kernel_rfl) trivial fun a399 hA400 => ?_
    refine wl_end ?_
    refine hK398 _ _ ?_
    refine c_ret (by kernel_rfl) ?_
    obtain rfl := someI h
    try simp only [Exit.then, Exit.inBlock]
    refine ret1 hA400 4 _ (by kernel_rfl) rfl rfl ?_
    exact ⟨rfl, ex392⟩
  · replace h := cfalse hb397 h
    refine c_skip (by kernel_rfl) ?_
    refine hK388 _ _ ?_
    refine c_seq law07_ModePairs_c11 law07_ModePairs_c12 (by kernel_rfl) fun K401 hK401 => ?_
    refine c_region law07_ModePairs_c11o 8 (by kernel_rfl) (by kernel_rfl) ?_
    refine wl_run 0 2 [0, 1, 10, 11] hA396 rfl (L' := [(0, .int .i64 p0), (1, .int .i64 p1), (10, .int .i64 p0), (11, .int .i64 p1)]) (vs := []) (obl := []) (by kernel_rfl) trivial fun a402 hA403 => ?_
    obtain ⟨y404, hy404, h⟩ := bindS h
    refine wl_call 2 rfl (d := some 12) (g := 9) (args := #[.int .i64 p0, .int .i64 p1]) hA403 (by kernel_rfl) Try.call9 (mode_Sup_ok n _ _ y404 w391 hy404) ?_
    rintro e w405 ⟨rfl, ex406⟩
    refine ⟨_, rfl, fun a407 hA408 => ?_⟩
    refine wl_run 3 5 [0, 1, 5, 6] hA408 rfl (L' := [(0, .int .i64 p0), (1, .int .i64 p1), (5, .int .i64 y404.1), (6, .int .i64 y404.2)]) (vs := []) (obl := []) (by kernel_rfl) trivial fun a409 hA410 => ?_
    refine wl_end ?_
    refine hK401 _ _ ?_
    refine c_seq law07_ModePairs_c13 law07_ModePairs_c14 (by kernel_rfl) fun K411 hK411 => ?_
    refine c_seq law07_ModePairs_c15 law07_ModePairs_c16 (by kernel_rfl) fun K412 hK412 => ?_
    refine c_region law07_ModePairs_c15o 16 (by kernel_rfl) (by kernel_rfl) ?_
    refine wl_run 0 2 [0, 1, 5, 6, 15, 16] hA410 rfl (L' := [(0, .int .i64 p0), (1, .int .i64 p1), (5, .int .i64 y404.1), (6, .int .i64 y404.2), (15, .int .i64 p0), (16, .int .i64 p1)]) (vs := []) (obl := []) (by kernel_rfl) trivial fun a413 hA414 => ?_
    obtain ⟨y415, hy415, h⟩ := bindS h
    refine wl_call 2 rfl (d := some 17) (g := 10) (args := #[.int .i64 p0, .int .i64 p1]) hA414 (by kernel_rfl) Try.call10 (mode_Goes_ok n _ _ y415 w405 hy415) ?_
    rintro e w416 ⟨rfl, ex417⟩
    refine ⟨_, rfl, fun a418 hA419 => ?_⟩
    refine wl_run 3 2 [0, 1, 5, 6, 17, 18, 19] hA419 rfl (L' := [(0, .int .i64 p0), (1, .int .i64 p1), (5, .int .i64 y404.1), (6, .int .i64 y404.2), (17, .bool y415), (18, .int .i64 p0), (19, .int .i64 p1)]) (vs := []) (obl := []) (by kernel_rfl) trivial fun a420 hA421 => ?_
    obtain ⟨y422, hy422, h⟩ := bindS h
    refine wl_call 5 rfl (d := some 20) (g := 11) (args := #[.int .i64 p0, .int .i64 p1]) hA421 (by kernel_rfl) Try.call11 (ref07_Goes_ok n _ _ y422 w416 hy422) ?_
    rintro e w423 ⟨rfl, ex424⟩
    refine ⟨_, rfl, fun a425 hA426 => ?_⟩
    refine wl_run 6 2 [0, 1, 5, 6, 22] hA426 rfl (L' := [(0, .int .i64 p0), (1, .int .i64 p1), (5, .int .i64 y404.1), (6, .int .i64 y404.2), (22, .bool (!(y415 == y422)))]) (vs := []) (obl := []) (by kernel_rfl) trivial fun a427 hA428 => ?_
    refine wl_cut 16 rfl rfl fun K429 hK429 => ?_
    have JK429 : ∀ (p452 : Bool) (a449 : Act) (w448 : World), Ext w423 w448 → Has a449 78 [(0, .int .i64 p0), (1, .int .i64 p1), (5, .int .i64 y404.1), (6, .int .i64 y404.2), (30, .bool p452)] → law07_ModePairs_j6 n p0 p1 y404 p452 = some r → K429 a449 w448 := by
      intro p452 a449 w448 ex451 hA450 h
      unfold law07_ModePairs_j6 at h
      refine hK429 _ _ ?_
      refine wl_end ?_
      refine hK412 _ _ ?_
      refine c_cond law07_ModePairs_c17 law07_ModePairs_c18 (condX law07_ModePairs_c16) p452 hA450 (by kernel_rfl) (by kernel_rfl) (by kernel_rfl) (fun hb453 => ?_) (fun hb453 => ?_)
      · replace h := ctrue hb453 h
        refine c_seq law07_ModePairs_c19 law07_ModePairs_c20 (by kernel_rfl) fun K454 hK454 => ?_
        refine c_region law07_ModePairs_c19o 1 (by kernel_rfl) (by kernel_rfl) ?_
        refine wl_run 0 1 [4] hA450 rfl (L' := [(4, .bool false)]) (vs := []) (obl := []) (by kernel_rfl) trivial fun a455 hA456 => ?_
        refine wl_end ?_
        refine hK454 _ _ ?_
        refine c_ret (by kernel_rfl) ?_
        obtain rfl := someI h
        try simp only [Exit.then, Exit.inBlock]
        refine ret1 hA456 4 _ (by kernel_rfl) rfl rfl ?_
        exact ⟨rfl, (Ext.trans (Ext.trans (Ext.trans (Ext.trans ex392 ex406) ex417) ex424) ex451)⟩
      · replace h := cfalse hb453 h
        refine c_skip (by kernel_rfl) ?_
        refine hK411 _ _ ?_
        refine c_seq law07_ModePairs_c21 law07_ModePairs_c22 (by kernel_rfl) fun K457 hK457 => ?_
        refine c_block 0 law07_ModePairs_c23 (by kernel_rfl) ?_
        refine c_seq law07_ModePairs_c24 law07_ModePairs_c25 (by kernel_rfl) fun K458 hK458 => ?_
        refine c_region law07_ModePairs_c24o 9 (by kernel_rfl) (by kernel_rfl) ?_
        refine wl_run 0 1 [0, 1, 5, 6, 32] hA450 rfl (L' := [(0, .int .i64 p0), (1, .int .i64 p1), (5, .int .i64 y404.1), (6, .int .i64 y404.2), (32, .int .i64 p0)]) (vs := []) (obl := []) (by kernel_rfl) trivial fun a459 hA460 => ?_
        obtain ⟨y461, hy461, h⟩ := bindS h
        refine wl_call 1 rfl (d := some 33) (g := 14) (args := #[.int .i64 p0]) hA460 (by kernel_rfl) Try.call14 (ref07_Is_ok n _ y461 w448 hy461) ?_
        rintro e w462 ⟨rfl, ex463⟩
        refine ⟨_, rfl, fun a464 hA465 => ?_⟩
        refine wl_run 2 2 [0, 1, 5, 6, 35] hA465 rfl (L' := [(0, .int .i64 p0), (1, .int .i64 p1), (5, .int .i64 y404.1), (6, .int .i64 y404.2), (35, .bool (!y461))]) (vs := []) (obl := []) (by kernel_rfl) trivial fun a466 hA467 => ?_
        refine wl_cut 8 rfl rfl fun K468 hK468 => ?_
        have JK468 : ∀ (p484 : Bool) (a481 : Act) (w480 : World), Ext w462 w480 → Has a481 78 [(0, .int .i64 p0), (1, .int .i64 p1), (5, .int .i64 y404.1), (6, .int .i64 y404.2), (39, .bool p484)] → law07_ModePairs_j5 n p0 p1 y404 p484 = some r → K468 a481 w480 := by
          intro p484 a481 w480 ex483 hA482 h
          unfold law07_ModePairs_j5 at h
          refine hK468 _ _ ?_
          refine wl_run 8 1 [0, 1, 5, 6, 31] hA482 rfl (L' := [(0, .int .i64 p0), (1, .int .i64 p1), (5, .int .i64 y404.1), (6, .int .i64 y404.2), (31, .bool p484)]) (vs := []) (obl := []) (by kernel_rfl) trivial fun a485 hA486 => ?_
          refine wl_end ?_
          refine hK458 _ _ ?_
          refine c_cond law07_ModePairs_c26 law07_ModePairs_c27 (condX law07_ModePairs_c25) p484 hA486 (by kernel_rfl) (by kernel_rfl) (by kernel_rfl) (fun hb487 => ?_) (fun hb487 => ?_)
          · replace h := ctrue hb487 h
            refine c_seq law07_ModePairs_c28 law07_ModePairs_c29 (by kernel_rfl) fun K488 hK488 => ?_
            refine c_region law07_ModePairs_c28o 7 (by kernel_rfl) (by kernel_rfl) ?_
            refine wl_run 0 3 [6, 42] hA486 rfl (L' := [(6, .int .i64 y404.2), (42, .bool (y404.1 == 0))]) (vs := []) (obl := []) (by kernel_rfl) trivial fun a489 hA490 => ?_
            refine wl_cut 6 rfl rfl fun K491 hK491 => ?_
            have JK491 : ∀ (a497 : Act), Has a497 78 [(45, .bool ((y404.1 == 0) && (y404.2 == 170)))] → K491 a497 w480 := by
              intro a497 hA498
              refine hK491 _ _ ?_
              refine wl_run 6 1 [4] hA498 rfl (L' := [(4, .bool ((y404.1 == 0) && (y404.2 == 170)))]) (vs := []) (obl := []) (by kernel_rfl) trivial fun a500 hA501 => ?_
              refine wl_end ?_
              refine hK488 _ _ ?_
              refine c_ret (by kernel_rfl) ?_
              obtain rfl := someI h
              try simp only [Exit.then, Exit.inBlock]
              refine ret1 hA501 4 _ (by kernel_rfl) rfl rfl ?_
              exact ⟨rfl, (Ext.trans (Ext.trans (Ext.trans (Ext.trans (Ext.trans (Ext.trans ex392 ex406) ex417) ex424) ex451) ex463) ex483)⟩
            cases hb502 : (y404.1 == 0)
            · have hA503 := Has.to (L' := [(6, .int .i64 y404.2), (42, .bool false)]) hA490 (by rw [hb502])
              refine wl_run 3 3 [45] hA503 rfl (L' := [(45, .bool false)]) (vs := []) (obl := []) (by kernel_rfl) trivial fun a505 hA506 => ?_
              refine wl_end ?_
              exact JK491 a505 (Has.to (Has.keep hA506 [45] rfl) (by rw [hb502]; rfl))
            · have hA507 := Has.to (L' := [(6, .int .i64 y404.2), (42, .bool true)]) hA490 (by rw [hb502])
              refine wl_run 3 3 [45] hA507 rfl (L' := [(45, .bool (y404.2 == 170))]) (vs := []) (obl := []) (by kernel_rfl) trivial fun a509 hA510 => ?_
              refine wl_end ?_
              exact JK491 a509 (Has.to (Has.keep hA510 [45] rfl) (by rw [hb502]; rfl))
          · replace h := cfalse hb487 h
            refine c_seq law07_ModePairs_c30 law07_ModePairs_c31 (by kernel_rfl) fun K511 hK511 => ?_
            refine c_region law07_ModePairs_c30o 17 (by kernel_rfl) (by kernel_rfl) ?_
            refine wl_run 0 1 [0, 1, 5, 6, 47] hA486 rfl (L' := [(0, .int .i64 p0), (1, .int .i64 p1), (5, .int .i64 y404.1), (6, .int .i64 y404.2), (47, .int .i64 p0)]) (vs := []) (obl := []) (by kernel_rfl) trivial fun a512 hA513 => ?_
            obtain ⟨y514, hy514, h⟩ := bindS h
            refine wl_call 1 rfl (d := some 48) (g := 15) (args := #[.int .i64 p0]) hA513 (by kernel_rfl) Try.call15 (ref07_Tables_ok n _ y514 w480 hy514) ?_
            rintro e w515 ⟨rfl, ex516⟩
            refine ⟨_, rfl, fun a517 hA518 => ?_⟩
            refine wl_run 2 1 [0, 1, 5, 6, 49] hA518 rfl (L' := [(0, .int .i64 p0), (1, .int .i64 p1), (5, .int .i64 y404.1), (6, .int .i64 y404.2), (49, .bool y514)]) (vs := []) (obl := []) (by kernel_rfl) trivial fun a519 hA520 => ?_
            refine wl_cut 6 rfl rfl fun K521 hK521 => ?_
            have JK521 : ∀ (p537 : Bool) (a534 : Act) (w533 : World), Ext w515 w533 → Has a534 78 [(0, .int .i64 p0), (1, .int .i64 p1), (5, .int .i64 y404.1), (6, .int .i64 y404.2), (52, .bool p537)] → law07_ModePairs_j4 n p0 p1 y404 p537 = some r → K521 a534 w533 := by
              intro p537 a534 w533 ex536 hA535 h
              unfold law07_ModePairs_j4 at h
              refine hK521 _ _ ?_
              refine wl_run 6 2 [0, 1, 5, 6, 54] hA535 rfl (L' := [(0, .int .i64 p0), (1, .int .i64 p1), (5, .int .i64 y404.1), (6, .int .i64 y404.2), (54, .bool (!p537))]) (vs := []) (obl := []) (by kernel_rfl) trivial fun a538 hA539 => ?_
              refine wl_cut 16 rfl rfl fun K540 hK540 => ?_
              have JK540 : ∀ (p592 : Bool) (a589 : Act) (w588 : World), Ext w533 w588 → Has a589 78 [(0, .int .i64 p0), (1, .int .i64 p1), (5, .int .i64 y404.1), (6, .int .i64 y404.2), (62, .bool p592)] → law07_ModePairs_j2 n p0 p1 y404 p592 = some r → K540 a589 w588 := by
                intro p592 a589 w588 ex591 hA590 h
                unfold law07_ModePairs_j2 at h
                refine hK540 _ _ ?_
                refine wl_run 16 1 [0, 1, 5, 6, 46] hA590 rfl (L' := [(0, .int .i64 p0), (1, .int .i64 p1), (5, .int .i64 y404.1), (6, .int .i64 y404.2), (46, .bool p592)]) (vs := []) (obl := []) (by kernel_rfl) trivial fun a593 hA594 => ?_
                refine wl_end ?_
                refine hK511 _ _ ?_
                refine c_cond law07_ModePairs_c32 law07_ModePairs_c33 (condX law07_ModePairs_c31) p592 hA594 (by kernel_rfl) (by kernel_rfl) (by kernel_rfl) (fun hb595 => ?_) (fun hb595 => ?_)
                · replace h := ctrue hb595 h
                  refine c_seq law07_ModePairs_c34 law07_ModePairs_c35 (by kernel_rfl) fun K596 hK596 => ?_
                  refine c_region law07_ModePairs_c34o 7 (by kernel_rfl) (by kernel_rfl) ?_
                  refine wl_run 0 3 [6, 65] hA594 rfl (L' := [(6, .int .i64 y404.2), (65, .bool (y404.1 == 0))]) (vs := []) (obl := []) (by kernel_rfl) trivial fun a597 hA598 => ?_
                  refine wl_cut 6 rfl rfl fun K599 hK599 => ?_
                  have JK599 : ∀ (a605 : Act), Has a605 78 [(68, .bool ((y404.1 == 0) && (y404.2 == 2)))] → K599 a605 w588 := by
                    intro a605 hA606
                    refine hK599 _ _ ?_
                    refine wl_run 6 1 [4] hA606 rfl (L' := [(4, .bool ((y404.1 == 0) && (y404.2 == 2)))]) (vs := []) (obl := []) (by kernel_rfl) trivial fun a608 hA609 => ?_
                    refine wl_end ?_
                    refine hK596 _ _ ?_
                    refine c_ret (by kernel_rfl) ?_
                    obtain rfl := someI h
                    try simp only [Exit.then, Exit.inBlock]
                    refine ret1 hA609 4 _ (by kernel_rfl) rfl rfl ?_
                    exact ⟨rfl, (Ext.trans (Ext.trans (Ext.trans (Ext.trans (Ext.trans (Ext.trans (Ext.trans (Ext.trans (Ext.trans ex392 ex406) ex417) ex424) ex451) ex463) ex483) ex516) ex536) ex591)⟩
                  cases hb610 : (y404.1 == 0)
                  · have hA611 := Has.to (L' := [(6, .int .i64 y404.2), (65, .bool false)]) hA598 (by rw [hb610])
                    refine wl_run 3 3 [68] hA611 rfl (L' := [(68, .bool false)]) (vs := []) (obl := []) (by kernel_rfl) trivial fun a613 hA614 => ?_
                    refine wl_end ?_
                    exact JK599 a613 (Has.to (Has.keep hA614 [68] rfl) (by rw [hb610]; rfl))
                  · have hA615 := Has.to (L' := [(6, .int .i64 y404.2), (65, .bool true)]) hA598 (by rw [hb610])
                    refine wl_run 3 3 [68] hA615 rfl (L' := [(68, .bool (y404.2 == 2))]) (vs := []) (obl := []) (by kernel_rfl) trivial fun a617 hA618 => ?_
                    refine wl_end ?_
                    exact JK599 a617 (Has.to (Has.keep hA618 [68] rfl) (by rw [hb610]; rfl))
                · replace h := cfalse hb595 h
                  refine c_skip (by kernel_rfl) ?_
                  refine hK457 _ _ ?_
                  refine c_seq law07_ModePairs_c36 law07_ModePairs_c37 (by kernel_rfl) fun K619 hK619 => ?_
                  refine c_region law07_ModePairs_c36o 10 (by kernel_rfl) (by kernel_rfl) ?_
                  refine wl_run 0 3 [0, 1, 5, 71] hA594 rfl (L' := [(0, .int .i64 p0), (1, .int .i64 p1), (5, .int .i64 y404.1), (71, .bool (y404.2 == 0))]) (vs := []) (obl := []) (by kernel_rfl) trivial fun a620 hA621 => ?_
                  refine wl_cut 9 rfl rfl fun K622 hK622 => ?_
                  have JK622 : ∀ (p638 : Bool) (a635 : Act) (w634 : World), Ext w588 w634 → Has a635 78 [(77, .bool p638)] → law07_ModePairs_j1 n p638 = some r → K622 a635 w634 := by
                    intro p638 a635 w634 ex637 hA636 h
                    unfold law07_ModePairs_j1 at h
                    refine hK622 _ _ ?_
                    refine wl_run 9 1 [4] hA636 rfl (L' := [(4, .bool p638)]) (vs := []) (obl := []) (by kernel_rfl) trivial fun a639 hA640 => ?_
                    refine wl_end ?_
                    refine hK619 _ _ ?_
                    refine c_ret (by kernel_rfl) ?_
                    obtain rfl := someI h
                    try simp only [Exit.then, Exit.inBlock]
                    refine ret1 hA640 4 _ (by kernel_rfl) rfl rfl ?_
                    exact ⟨rfl, (Ext.trans (Ext.trans (Ext.trans (Ext.trans (Ext.trans (Ext.trans (Ext.trans (Ext.trans (Ext.trans (Ext.trans ex392 ex406) ex417) ex424) ex451) ex463) ex483) ex516) ex536) ex591) ex637)⟩
                  obtain ⟨p638, hv642, h⟩ := bindS h
                  cases hb641 : (y404.2 == 0)
                  · have hA643 := Has.to (L' := [(0, .int .i64 p0), (1, .int .i64 p1), (5, .int .i64 y404.1), (71, .bool false)]) hA621 (by rw [hb641])
                    replace hv642 := cfalse hb641 hv642
                    have hk644 := h
                    clear h
                    have h := hv642
                    refine wl_run 3 6 [77] hA643 rfl (L' := [(77, .bool false)]) (vs := []) (obl := []) (by kernel_rfl) trivial fun a645 hA646 => ?_
                    refine wl_end ?_
                    obtain rfl := someI h
                    exact JK622 _ a645 w588 (Ext.refl _) (Has.keep hA646 [77] rfl) hk644
                  · have hA647 := Has.to (L' := [(0, .int .i64 p0), (1, .int .i64 p1), (5, .int .i64 y404.1), (71, .bool true)]) hA621 (by rw [hb641])
                    replace hv642 := ctrue hb641 hv642
                    have hk648 := h
                    clear h
                    have h := hv642
                    refine wl_run 3 3 [71, 72, 73, 74] hA647 rfl (L' := [(71, .bool true), (72, .int .i64 y404.1), (73, .int .i64 p0), (74, .int .i64 p1)]) (vs := []) (obl := []) (by kernel_rfl) trivial fun a649 hA650 => ?_
                    obtain ⟨y651, hy651, h⟩ := bindS h
                    refine wl_call 6 rfl (d := some 75) (g := 17) (args := #[.int .i64 p0, .int .i64 p1]) hA650 (by kernel_rfl) Try.call17 (ref07_Sup_ok n _ _ y651 w588 hy651) ?_
                    rintro e w652 ⟨rfl, ex653⟩
                    refine ⟨_, rfl, fun a654 hA655 => ?_⟩
                    refine wl_run 7 2 [77] hA655 rfl (L' := [(77, .bool (y404.1 == y651))]) (vs := []) (obl := []) (by kernel_rfl) trivial fun a656 hA657 => ?_
                    refine wl_end ?_
                    obtain rfl := someI h
                    exact JK622 _ a656 w652 ex653 (Has.keep hA657 [77] rfl) hk648
              obtain ⟨p592, hv659, h⟩ := bindS h
              cases hb658 : (!p537)
              · have hA660 := Has.to (L' := [(0, .int .i64 p0), (1, .int .i64 p1), (5, .int .i64 y404.1), (6, .int .i64 y404.2), (54, .bool false)]) hA539 (by rw [hb658])
                replace hv659 := cfalse hb658 hv659
                have hk661 := h
                clear h
                have h := hv659
                refine wl_run 8 8 [0, 1, 5, 6, 62] hA660 rfl (L' := [(0, .int .i64 p0), (1, .int .i64 p1), (5, .int .i64 y404.1), (6, .int .i64 y404.2), (62, .bool false)]) (vs := []) (obl := []) (by kernel_rfl) trivial fun a662 hA663 => ?_
                refine wl_end ?_
                obtain rfl := someI h
                exact JK540 _ a662 w533 (Ext.refl _) (Has.keep hA663 [0, 1, 5, 6, 62] rfl) hk661
              · have hA664 := Has.to (L' := [(0, .int .i64 p0), (1, .int .i64 p1), (5, .int .i64 y404.1), (6, .int .i64 y404.2), (54, .bool true)]) hA539 (by rw [hb658])
                replace hv659 := ctrue hb658 hv659
                have hk665 := h
                clear h
                have h := hv659
                refine wl_run 8 1 [0, 1, 5, 6, 54, 55] hA664 rfl (L' := [(0, .int .i64 p0), (1, .int .i64 p1), (5, .int .i64 y404.1), (6, .int .i64 y404.2), (54, .bool true), (55, .int .i64 p0)]) (vs := []) (obl := []) (by kernel_rfl) trivial fun a666 hA667 => ?_
                obtain ⟨y668, hy668, h⟩ := bindS h
                refine wl_call 9 rfl (d := some 56) (g := 16) (args := #[.int .i64 p0]) hA667 (by kernel_rfl) Try.call16 (ref07_Keys_ok n _ y668 w533 hy668) ?_
                rintro e w669 ⟨rfl, ex670⟩
                refine ⟨_, rfl, fun a671 hA672 => ?_⟩
                refine wl_run 10 1 [0, 1, 5, 6, 54, 57] hA672 rfl (L' := [(0, .int .i64 p0), (1, .int .i64 p1), (5, .int .i64 y404.1), (6, .int .i64 y404.2), (54, .bool true), (57, .bool y668)]) (vs := []) (obl := []) (by kernel_rfl) trivial fun a673 hA674 => ?_
                refine wl_cut 14 rfl rfl fun K675 hK675 => ?_
                have JK675 : ∀ (p691 : Bool) (a688 : Act) (w687 : World), Ext w669 w687 → Has a688 78 [(0, .int .i64 p0), (1, .int .i64 p1), (5, .int .i64 y404.1), (6, .int .i64 y404.2), (54, .bool true), (60, .bool p691)] → law07_ModePairs_j3 n p691 = some p592 → K675 a688 w687 := by
                  intro p691 a688 w687 ex690 hA689 h
                  unfold law07_ModePairs_j3 at h
                  refine hK675 _ _ ?_
                  refine wl_run 14 2 [0, 1, 5, 6, 62] hA689 rfl (L' := [(0, .int .i64 p0), (1, .int .i64 p1), (5, .int .i64 y404.1), (6, .int .i64 y404.2), (62, .bool (!p691))]) (vs := []) (obl := []) (by kernel_rfl) trivial fun a692 hA693 => ?_
                  refine wl_end ?_
                  obtain rfl := someI h
                  exact JK540 _ a692 w687 (Ext.trans ex670 ex690) (Has.keep hA693 [0, 1, 5, 6, 62] rfl) hk665
                obtain ⟨p691, hv695, h⟩ := bindS h
                cases hb694 : y668
                · have hA696 := Has.to (L' := [(0, .int .i64 p0), (1, .int .i64 p1), (5, .int .i64 y404.1), (6, .int .i64 y404.2), (54, .bool true), (57, .bool false)]) hA674 (by rw [hb694])
                  replace hv695 := cfalse hb694 hv695
                  have hk697 := h
                  clear h
                  have h := hv695
                  refine wl_run 11 3 [0, 1, 5, 6, 54, 60] hA696 rfl (L' := [(0, .int .i64 p0), (1, .int .i64 p1), (5, .int .i64 y404.1), (6, .int .i64 y404.2), (54, .bool true), (60, .bool false)]) (vs := []) (obl := []) (by kernel_rfl) trivial fun a698 hA699 => ?_
                  refine wl_end ?_
                  obtain rfl := someI h
                  exact JK675 _ a698 w669 (Ext.refl _) (Has.keep hA699 [0, 1, 5, 6, 54, 60] rfl) hk697
                · have hA700 := Has.to (L' := [(0, .int .i64 p0), (1, .int .i64 p1), (5, .int .i64 y404.1), (6, .int .i64 y404.2), (54, .bool true), (57, .bool true)]) hA674 (by rw [hb694])
                  replace hv695 := ctrue hb694 hv695
                  have hk701 := h
                  clear h
                  have h := hv695
                  refine wl_run 11 1 [0, 1, 5, 6, 54, 57, 58] hA700 rfl (L' := [(0, .int .i64 p0), (1, .int .i64 p1), (5, .int .i64 y404.1), (6, .int .i64 y404.2), (54, .bool true), (57, .bool true), (58, .int .i64 p1)]) (vs := []) (obl := []) (by kernel_rfl) trivial fun a702 hA703 => ?_
                  obtain ⟨y704, hy704, h⟩ := bindS h
                  refine wl_call 12 rfl (d := some 59) (g := 16) (args := #[.int .i64 p1]) hA703 (by kernel_rfl) Try.call16 (ref07_Keys_ok n _ y704 w669 hy704) ?_
                  rintro e w705 ⟨rfl, ex706⟩
                  refine ⟨_, rfl, fun a707 hA708 => ?_⟩
                  refine wl_run 13 1 [0, 1, 5, 6, 54, 60] hA708 rfl (L' := [(0, .int .i64 p0), (1, .int .i64 p1), (5, .int .i64 y404.1), (6, .int .i64 y404.2), (54, .bool true), (60, .bool y704)]) (vs := []) (obl := []) (by kernel_rfl) trivial fun a709 hA710 => ?_
                  refine wl_end ?_
                  obtain rfl := someI h
                  exact JK675 _ a709 w705 ex706 (Has.keep hA710 [0, 1, 5, 6, 54, 60] rfl) hk701
            obtain ⟨p537, hv712, h⟩ := bindS h
            cases hb711 : y514
            · have hA713 := Has.to (L' := [(0, .int .i64 p0), (1, .int .i64 p1), (5, .int .i64 y404.1), (6, .int .i64 y404.2), (49, .bool false)]) hA520 (by rw [hb711])
              replace hv712 := cfalse hb711 hv712
              have hk714 := h
              clear h
              have h := hv712
              refine wl_run 3 3 [0, 1, 5, 6, 52] hA713 rfl (L' := [(0, .int .i64 p0), (1, .int .i64 p1), (5, .int .i64 y404.1), (6, .int .i64 y404.2), (52, .bool false)]) (vs := []) (obl := []) (by kernel_rfl) trivial fun a715 hA716 => ?_
              refine wl_end ?_
              obtain rfl := someI h
              exact JK521 _ a715 w515 (Ext.refl _) (Has.keep hA716 [0, 1, 5, 6, 52] rfl) hk714
            · have hA717 := Has.to (L' := [(0, .int .i64 p0), (1, .int .i64 p1), (5, .int .i64 y404.1), (6, .int .i64 y404.2), (49, .bool true)]) hA520 (by rw [hb711])
              replace hv712 := ctrue hb711 hv712
              have hk718 := h
              clear h
              have h := hv712
              refine wl_run 3 1 [0, 1, 5, 6, 49, 50] hA717 rfl (L' := [(0, .int .i64 p0), (1, .int .i64 p1), (5, .int .i64 y404.1), (6, .int .i64 y404.2), (49, .bool true), (50, .int .i64 p1)]) (vs := []) (obl := []) (by kernel_rfl) trivial fun a719 hA720 => ?_
              obtain ⟨y721, hy721, h⟩ := bindS h
              refine wl_call 4 rfl (d := some 51) (g := 15) (args := #[.int .i64 p1]) hA720 (by kernel_rfl) Try.call15 (ref07_Tables_ok n _ y721 w515 hy721) ?_
              rintro e w722 ⟨rfl, ex723⟩
              refine ⟨_, rfl, fun a724 hA725 => ?_⟩
              refine wl_run 5 1 [0, 1, 5, 6, 52] hA725 rfl (L' := [(0, .int .i64 p0), (1, .int .i64 p1), (5, .int .i64 y404.1), (6, .int .i64 y404.2), (52, .bool y721)]) (vs := []) (obl := []) (by kernel_rfl) trivial fun a726 hA727 => ?_
              refine wl_end ?_
              obtain rfl := someI h
              exact JK521 _ a726 w722 ex723 (Has.keep hA727 [0, 1, 5, 6, 52] rfl) hk718
        obtain ⟨p484, hv729, h⟩ := bindS h
        cases hb728 : (!y461)
        · have hA730 := Has.to (L' := [(0, .int .i64 p0), (1, .int .i64 p1), (5, .int .i64 y404.1), (6, .int .i64 y404.2), (35, .bool false)]) hA467 (by rw [hb728])
          replace hv729 := cfalse hb728 hv729
          have hk731 := h
          clear h
          have h := hv729
          refine wl_run 4 1 [0, 1, 5, 6, 35, 36] hA730 rfl (L' := [(0, .int .i64 p0), (1, .int .i64 p1), (5, .int .i64 y404.1), (6, .int .i64 y404.2), (35, .bool false), (36, .int .i64 p1)]) (vs := []) (obl := []) (by kernel_rfl) trivial fun a732 hA733 => ?_
          obtain ⟨y734, hy734, h⟩ := bindS h
          refine wl_call 5 rfl (d := some 37) (g := 14) (args := #[.int .i64 p1]) hA733 (by kernel_rfl) Try.call14 (ref07_Is_ok n _ y734 w462 hy734) ?_
          rintro e w735 ⟨rfl, ex736⟩
          refine ⟨_, rfl, fun a737 hA738 => ?_⟩
          refine wl_run 6 2 [0, 1, 5, 6, 39] hA738 rfl (L' := [(0, .int .i64 p0), (1, .int .i64 p1), (5, .int .i64 y404.1), (6, .int .i64 y404.2), (39, .bool (!y734))]) (vs := []) (obl := []) (by kernel_rfl) trivial fun a739 hA740 => ?_
          refine wl_end ?_
          obtain rfl := someI h
          exact JK468 _ a739 w735 ex736 (Has.keep hA740 [0, 1, 5, 6, 39] rfl) hk731
        · have hA741 := Has.to (L' := [(0, .int .i64 p0), (1, .int .i64 p1), (5, .int .i64 y404.1), (6, .int .i64 y404.2), (35, .bool true)]) hA467 (by rw [hb728])
          replace hv729 := ctrue hb728 hv729
          have hk742 := h
          clear h
          have h := hv729
          refine wl_run 4 4 [0, 1, 5, 6, 39] hA741 rfl (L' := [(0, .int .i64 p0), (1, .int .i64 p1), (5, .int .i64 y404.1), (6, .int .i64 y404.2), (39, .bool true)]) (vs := []) (obl := []) (by kernel_rfl) trivial fun a743 hA744 => ?_
          refine wl_end ?_
          obtain rfl := someI h
          exact JK468 _ a743 w462 (Ext.refl _) (Has.keep hA744 [0, 1, 5, 6, 39] rfl) hk742
    obtain ⟨p452, hv746, h⟩ := bindS h
    cases hb745 : (!(y415 == y422))
    · have hA747 := Has.to (L' := [(0, .int .i64 p0), (1, .int .i64 p1), (5, .int .i64 y404.1), (6, .int .i64 y404.2), (22, .bool false)]) hA428 (by rw [hb745])
      replace hv746 := cfalse hb745 hv746
      have hk748 := h
      clear h
      have h := hv746
      refine wl_run 8 2 [0, 1, 5, 6, 22, 23, 24] hA747 rfl (L' := [(0, .int .i64 p0), (1, .int .i64 p1), (5, .int .i64 y404.1), (6, .int .i64 y404.2), (22, .bool false), (23, .int .i64 p0), (24, .int .i64 p1)]) (vs := []) (obl := []) (by kernel_rfl) trivial fun a749 hA750 => ?_
      obtain ⟨y751, hy751, h⟩ := bindS h
      refine wl_call 10 rfl (d := some 25) (g := 12) (args := #[.int .i64 p0, .int .i64 p1]) hA750 (by kernel_rfl) Try.call12 (mode_Covers_ok n _ _ y751 w423 hy751) ?_
      rintro e w752 ⟨rfl, ex753⟩
      refine ⟨_, rfl, fun a754 hA755 => ?_⟩
      refine wl_run 11 2 [0, 1, 5, 6, 22, 25, 26, 27] hA755 rfl (L' := [(0, .int .i64 p0), (1, .int .i64 p1), (5, .int .i64 y404.1), (6, .int .i64 y404.2), (22, .bool false), (25, .bool y751), (26, .int .i64 p0), (27, .int .i64 p1)]) (vs := []) (obl := []) (by kernel_rfl) trivial fun a756 hA757 => ?_
      obtain ⟨y758, hy758, h⟩ := bindS h
      refine wl_call 13 rfl (d := some 28) (g := 13) (args := #[.int .i64 p0, .int .i64 p1]) hA757 (by kernel_rfl) Try.call13 (ref07_Covers_ok n _ _ y758 w752 hy758) ?_
      rintro e w759 ⟨rfl, ex760⟩
      refine ⟨_, rfl, fun a761 hA762 => ?_⟩
      refine wl_run 14 2 [0, 1, 5, 6, 30] hA762 rfl (L' := [(0, .int .i64 p0), (1, .int .i64 p1), (5, .int .i64 y404.1), (6, .int .i64 y404.2), (30, .bool (!(y751 == y758)))]) (vs := []) (obl := []) (by kernel_rfl) trivial fun a763 hA764 => ?_
      refine wl_end ?_
      obtain rfl := someI h
      exact JK429 _ a763 w759 (Ext.trans ex753 ex760) (Has.keep hA764 [0, 1, 5, 6, 30] rfl) hk748
    · have hA765 := Has.to (L' := [(0, .int .i64 p0), (1, .int .i64 p1), (5, .int .i64 y404.1), (6, .int .i64 y404.2), (22, .bool true)]) hA428 (by rw [hb745])
      replace hv746 := ctrue hb745 hv746
      have hk766 := h
      clear h
      have h := hv746
      refine wl_run 8 8 [0, 1, 5, 6, 30] hA765 rfl (L' := [(0, .int .i64 p0), (1, .int .i64 p1), (5, .int .i64 y404.1), (6, .int .i64 y404.2), (30, .bool true)]) (vs := []) (obl := []) (by kernel_rfl) trivial fun a767 hA768 => ?_
      refine wl_end ?_
      obtain rfl := someI h
      exact JK429 _ a767 w423 (Ext.refl _) (Has.keep hA768 [0, 1, 5, 6, 30] rfl) hk766

end Go.Proofs.Ytghinjlfaicpjaa
