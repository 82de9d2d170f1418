/- Functions of the program: plain twins and walks, printed by program. -/
import Derived.Test.YtghinjlfaicpjaaTypes
import Derived.Test.YtghinjlfaicpjaaF0
import Derived.Test.YtghinjlfaicpjaaF1
import Derived.Test.YtghinjlfaicpjaaF2
namespace Go.Proofs.Ytghinjlfaicpjaa
open Go.Bur Go.RowKit
set_option linter.unusedVariables false
set_option linter.unusedSimpArgs false
set_option maxRecDepth 100000
/-! bursary mode.Check -/
def mode_Check (n : Nat) (p0 : Int) : Option Int :=
  (mode_is n p0).bind fun y29 =>
  cond (!y29)
    (some 170)
    (some 0)
noncomputable def mode_Check_c0 : Code := bodyOf Try.f18
noncomputable def mode_Check_c1 : Code := seqL mode_Check_c0
noncomputable def mode_Check_c2 : Code := seqR mode_Check_c0
noncomputable def mode_Check_c1o : Array Oper := regO mode_Check_c1
noncomputable def mode_Check_c3 : Code := seqL mode_Check_c2
noncomputable def mode_Check_c4 : Code := seqR mode_Check_c2
noncomputable def mode_Check_c5 : Code := seqL mode_Check_c3
noncomputable def mode_Check_c6 : Code := seqR mode_Check_c3
noncomputable def mode_Check_c5o : Array Oper := regO mode_Check_c5
noncomputable def mode_Check_c7 : Code := condT mode_Check_c6
noncomputable def mode_Check_c8 : Code := condE mode_Check_c6
noncomputable def mode_Check_c9 : Code := seqL mode_Check_c7
noncomputable def mode_Check_c10 : Code := seqR mode_Check_c7
noncomputable def mode_Check_c9o : Array Oper := regO mode_Check_c9
noncomputable def mode_Check_c11 : Code := seqL mode_Check_c4
noncomputable def mode_Check_c12 : Code := seqR mode_Check_c4
noncomputable def mode_Check_c11o : Array Oper := regO mode_Check_c11
theorem mode_Check_ok (n : Nat) (p0 : Int) (r : Int) (w : World)  (h : mode_Check n p0 = some r) :
    Calls Try.prog 18 #[.int .i64 p0] w fun e w' => e = .returned (.int .i64 r) ∧ Ext w w' := by
  unfold mode_Check at h
  refine enter 6 Try.func18 rfl (by kernel_rfl) (by simp) fun a hA => ?_
  change mode_Check_c0.wp _ _ _ _
  refine c_seq mode_Check_c1 mode_Check_c2 (by kernel_rfl) fun K22 hK22 => ?_
  refine c_region mode_Check_c1o 1 (by kernel_rfl) (by kernel_rfl) ?_
  refine wl_run 0 1 [0] hA rfl (L' := [(0, .int .i64 p0)]) (vs := []) (obl := []) (by kernel_rfl) trivial fun a23 hA24 => ?_
  refine wl_end ?_
  refine hK22 _ _ ?_
  refine c_seq mode_Check_c3 mode_Check_c4 (by kernel_rfl) fun K25 hK25 => ?_
  refine c_seq mode_Check_c5 mode_Check_c6 (by kernel_rfl) fun K26 hK26 => ?_
  refine c_region mode_Check_c5o 3 (by kernel_rfl) (by kernel_rfl) ?_
  refine wl_run 0 1 [3] hA24 rfl (L' := [(3, .int .i64 p0)]) (vs := []) (obl := []) (by kernel_rfl) trivial fun a27 hA28 => ?_
  obtain ⟨y29, hy29, h⟩ := bindS h
  refine wl_call 1 rfl (d := some 4) (g := 24) (args := #[.int .i64 p0]) hA28 (by kernel_rfl) Try.call24 (mode_is_ok n _ y29 w hy29) ?_
  rintro e w30 ⟨rfl, ex31⟩
  refine ⟨_, rfl, fun a32 hA33 => ?_⟩
  refine wl_run 2 1 [5] hA33 rfl (L' := [(5, .bool (!y29))]) (vs := []) (obl := []) (by kernel_rfl) trivial fun a34 hA35 => ?_
  refine wl_end ?_
  refine hK26 _ _ ?_
  refine c_cond mode_Check_c7 mode_Check_c8 (condX mode_Check_c6) (!y29) hA35 (by kernel_rfl) (by kernel_rfl) (by kernel_rfl) (fun hb36 => ?_) (fun hb36 => ?_)
  · replace h := ctrue hb36 h
    refine c_seq mode_Check_c9 mode_Check_c10 (by kernel_rfl) fun K37 hK37 => ?_
    refine c_region mode_Check_c9o 1 (by kernel_rfl) (by kernel_rfl) ?_
    refine wl_run 0 1 [2] hA35 rfl (L' := [(2, .int .i64 170)]) (vs := []) (obl := []) (by kernel_rfl) trivial fun a38 hA39 => ?_
    refine wl_end ?_
    refine hK37 _ _ ?_
    refine c_ret (by kernel_rfl) ?_
    obtain rfl := someI h
    try simp only [Exit.then, Exit.inBlock]
    refine ret1 hA39 2 _ (by kernel_rfl) rfl rfl ?_
    exact ⟨rfl, ex31⟩
  · replace h := cfalse hb36 h
    refine c_skip (by kernel_rfl) ?_
    refine hK25 _ _ ?_
    refine c_seq mode_Check_c11 mode_Check_c12 (by kernel_rfl) fun K40 hK40 => ?_
    refine c_region mode_Check_c11o 1 (by kernel_rfl) (by kernel_rfl) ?_
    refine wl_run 0 1 [2] hA35 rfl (L' := [(2, .int .i64 0)]) (vs := []) (obl := []) (by kernel_rfl) trivial fun a41 hA42 => ?_
    refine wl_end ?_
    refine hK40 _ _ ?_
    refine c_ret (by kernel_rfl) ?_
    obtain rfl := someI h
    try simp only [Exit.then, Exit.inBlock]
    refine ret1 hA42 2 _ (by kernel_rfl) rfl rfl ?_
    exact ⟨rfl, ex31⟩

/-! bursary bursarylaw07.ModeSups -/
def law07_ModeSups_j1 (n : Nat) (p0 : Int) (p1 : Int) (p2 : Int) (y723 : (Int × Int)) (p1008 : Bool) (p1056 : Bool) : Option Bool :=
  cond ((!p1008) && (!p1056))
    (some true)
    ((mode_Sup n y723.1 p2).bind fun y1079 =>
    (mode_Sup n p1 p2).bind fun y1089 =>
    cond ((y1079.2 != 0) || (y1089.2 != 0))
      (some false)
      ((mode_Sup n p0 y1089.1).bind fun y1116 =>
      some ((y1116.2 == 0) && (y1079.1 == y1116.1))))
def law07_ModeSups_j2 (n : Nat) (p0 : Int) (p1 : Int) (p2 : Int) (y723 : (Int × Int)) (p1008 : Bool) (p1037 : Bool) : Option Bool :=
  (cond p1037
  ((mode_OfKeys n p2).bind fun y1174 =>
  some y1174)
  (some false)).bind fun p1056 =>
  law07_ModeSups_j1 n p0 p1 p2 y723 p1008 p1056
def law07_ModeSups_j3 (n : Nat) (p0 : Int) (p1 : Int) (p2 : Int) (y723 : (Int × Int)) (p1008 : Bool) : Option Bool :=
  (mode_OfKeys n p0).bind fun y1014 =>
  (cond y1014
  ((mode_OfKeys n p1).bind fun y1191 =>
  some y1191)
  (some false)).bind fun p1037 =>
  law07_ModeSups_j2 n p0 p1 p2 y723 p1008 p1037
def law07_ModeSups_j4 (n : Nat) (p0 : Int) (p1 : Int) (p2 : Int) (y723 : (Int × Int)) (p989 : Bool) : Option Bool :=
  (cond p989
  ((mode_OfTables n p2).bind fun y1208 =>
  some y1208)
  (some false)).bind fun p1008 =>
  law07_ModeSups_j3 n p0 p1 p2 y723 p1008
def law07_ModeSups_j5 (n : Nat) (p0 : Int) (p1 : Int) (p2 : Int) (y723 : (Int × Int)) (p958 : Bool) : Option Bool :=
  cond p958
    (some false)
    ((mode_OfTables n p0).bind fun y966 =>
    (cond y966
  ((mode_OfTables n p1).bind fun y1225 =>
  some y1225)
  (some false)).bind fun p989 =>
    law07_ModeSups_j4 n p0 p1 p2 y723 p989)
def law07_ModeSups_j6 (n : Nat) (y1242 : Bool) (p1272 : Bool) : Option Bool :=
  some (!(y1242 == p1272))
def law07_ModeSups_j7 (n : Nat) (p0 : Int) (p1 : Int) (p2 : Int) (y723 : (Int × Int)) (p883 : Bool) : Option Bool :=
  cond p883
    (some false)
    ((mode_Check n p2).bind fun y892 =>
    (cond (y892 == 0)
  ((mode_Goes n y723.1 p2).bind fun y1242 =>
  (mode_Goes n p0 p2).bind fun y1249 =>
  (cond y1249
  ((mode_Goes n p1 p2).bind fun y1285 =>
  some y1285)
  (some false)).bind fun p1272 =>
  law07_ModeSups_j6 n y1242 p1272)
  (some false)).bind fun p958 =>
    law07_ModeSups_j5 n p0 p1 p2 y723 p958)
def law07_ModeSups_j8 (n : Nat)  (p1340 : Bool) : Option Bool :=
  some p1340
def law07_ModeSups_j9 (n : Nat) (p2 : Int) (y723 : (Int × Int)) (p1321 : Bool) : Option Bool :=
  (cond p1321
  ((mode_Covers n p2 y723.1).bind fun y1353 =>
  some (!y1353))
  (some false)).bind fun p1340 =>
  law07_ModeSups_j8 n p1340
def law07_ModeSups_j10 (n : Nat) (p0 : Int) (p1 : Int) (p2 : Int) (y723 : (Int × Int)) (p792 : Bool) : Option Bool :=
  (cond p792
  (some true)
  ((mode_Covers n p2 p0).bind fun y1298 =>
  (cond y1298
  ((mode_Covers n p2 p1).bind fun y1370 =>
  some y1370)
  (some false)).bind fun p1321 =>
  law07_ModeSups_j9 n p2 y723 p1321)).bind fun p883 =>
  law07_ModeSups_j7 n p0 p1 p2 y723 p883
def law07_ModeSups (n : Nat) (p0 : Int) (p1 : Int) (p2 : Int) : Option Bool :=
  (law07_wakes n).bind fun y709 =>
  cond (!y709)
    (some false)
    ((mode_Sup n p0 p1).bind fun y723 =>
    (mode_Sup n p1 p0).bind fun y733 =>
    cond ((y723.2 != y733.2) || (y723.1 != y733.1))
      (some false)
      (cond (y723.2 != 0)
        (some (y723.1 == 0))
        ((mode_Covers n y723.1 p0).bind fun y769 =>
        (cond (!y769)
  (some true)
  ((mode_Covers n y723.1 p1).bind fun y1387 =>
  some (!y1387))).bind fun p792 =>
        law07_ModeSups_j10 n p0 p1 p2 y723 p792)))
noncomputable def law07_ModeSups_c0 : Code := bodyOf Try.f4
noncomputable def law07_ModeSups_c1 : Code := seqL law07_ModeSups_c0
noncomputable def law07_ModeSups_c2 : Code := seqR law07_ModeSups_c0
noncomputable def law07_ModeSups_c1o : Array Oper := regO law07_ModeSups_c1
noncomputable def law07_ModeSups_c3 : Code := seqL law07_ModeSups_c2
noncomputable def law07_ModeSups_c4 : Code := seqR law07_ModeSups_c2
noncomputable def law07_ModeSups_c5 : Code := seqL law07_ModeSups_c3
noncomputable def law07_ModeSups_c6 : Code := seqR law07_ModeSups_c3
noncomputable def law07_ModeSups_c5o : Array Oper := regO law07_ModeSups_c5
noncomputable def law07_ModeSups_c7 : Code := condT law07_ModeSups_c6
noncomputable def law07_ModeSups_c8 : Code := condE law07_ModeSups_c6
noncomputable def law07_ModeSups_c9 : Code := seqL law07_ModeSups_c7
noncomputable def law07_ModeSups_c10 : Code := seqR law07_ModeSups_c7
noncomputable def law07_ModeSups_c9o : Array Oper := regO law07_ModeSups_c9
noncomputable def law07_ModeSups_c11 : Code := seqL law07_ModeSups_c4
noncomputable def law07_ModeSups_c12 : Code := seqR law07_ModeSups_c4
noncomputable def law07_ModeSups_c11o : Array Oper := regO law07_ModeSups_c11
noncomputable def law07_ModeSups_c13 : Code := seqL law07_ModeSups_c12
noncomputable def law07_ModeSups_c14 : Code := seqR law07_ModeSups_c12
noncomputable def law07_ModeSups_c13o : Array Oper := regO law07_ModeSups_c13
noncomputable def law07_ModeSups_c15 : Code := seqL law07_ModeSups_c14
noncomputable def law07_ModeSups_c16 : Code := seqR law07_ModeSups_c14
noncomputable def law07_ModeSups_c17 : Code := seqL law07_ModeSups_c15
noncomputable def law07_ModeSups_c18 : Code := seqR law07_ModeSups_c15
noncomputable def law07_ModeSups_c17o : Array Oper := regO law07_ModeSups_c17
noncomputable def law07_ModeSups_c19 : Code := condT law07_ModeSups_c18
noncomputable def law07_ModeSups_c20 : Code := condE law07_ModeSups_c18
noncomputable def law07_ModeSups_c21 : Code := seqL law07_ModeSups_c19
noncomputable def law07_ModeSups_c22 : Code := seqR law07_ModeSups_c19
noncomputable def law07_ModeSups_c21o : Array Oper := regO law07_ModeSups_c21
noncomputable def law07_ModeSups_c23 : Code := seqL law07_ModeSups_c16
noncomputable def law07_ModeSups_c24 : Code := seqR law07_ModeSups_c16
noncomputable def law07_ModeSups_c25 : Code := seqL law07_ModeSups_c23
noncomputable def law07_ModeSups_c26 : Code := seqR law07_ModeSups_c23
noncomputable def law07_ModeSups_c25o : Array Oper := regO law07_ModeSups_c25
noncomputable def law07_ModeSups_c27 : Code := condT law07_ModeSups_c26
noncomputable def law07_ModeSups_c28 : Code := condE law07_ModeSups_c26
noncomputable def law07_ModeSups_c29 : Code := seqL law07_ModeSups_c27
noncomputable def law07_ModeSups_c30 : Code := seqR law07_ModeSups_c27
noncomputable def law07_ModeSups_c29o : Array Oper := regO law07_ModeSups_c29
noncomputable def law07_ModeSups_c31 : Code := seqL law07_ModeSups_c24
noncomputable def law07_ModeSups_c32 : Code := seqR law07_ModeSups_c24
noncomputable def law07_ModeSups_c33 : Code := seqL law07_ModeSups_c31
noncomputable def law07_ModeSups_c34 : Code := seqR law07_ModeSups_c31
noncomputable def law07_ModeSups_c33o : Array Oper := regO law07_ModeSups_c33
noncomputable def law07_ModeSups_c35 : Code := condT law07_ModeSups_c34
noncomputable def law07_ModeSups_c36 : Code := condE law07_ModeSups_c34
noncomputable def law07_ModeSups_c37 : Code := seqL law07_ModeSups_c35
noncomputable def law07_ModeSups_c38 : Code := seqR law07_ModeSups_c35
noncomputable def law07_ModeSups_c37o : Array Oper := regO law07_ModeSups_c37
noncomputable def law07_ModeSups_c39 : Code := seqL law07_ModeSups_c32
noncomputable def law07_ModeSups_c40 : Code := seqR law07_ModeSups_c32
noncomputable def law07_ModeSups_c41 : Code := seqL law07_ModeSups_c39
noncomputable def law07_ModeSups_c42 : Code := seqR law07_ModeSups_c39
noncomputable def law07_ModeSups_c41o : Array Oper := regO law07_ModeSups_c41
noncomputable def law07_ModeSups_c43 : Code := condT law07_ModeSups_c42
noncomputable def law07_ModeSups_c44 : Code := condE law07_ModeSups_c42
noncomputable def law07_ModeSups_c45 : Code := seqL law07_ModeSups_c43
noncomputable def law07_ModeSups_c46 : Code := seqR law07_ModeSups_c43
noncomputable def law07_ModeSups_c45o : Array Oper := regO law07_ModeSups_c45
noncomputable def law07_ModeSups_c47 : Code := seqL law07_ModeSups_c40
noncomputable def law07_ModeSups_c48 : Code := seqR law07_ModeSups_c40
noncomputable def law07_ModeSups_c47o : Array Oper := regO law07_ModeSups_c47
noncomputable def law07_ModeSups_c49 : Code := seqL law07_ModeSups_c48
noncomputable def law07_ModeSups_c50 : Code := seqR law07_ModeSups_c48
noncomputable def law07_ModeSups_c49o : Array Oper := regO law07_ModeSups_c49
noncomputable def law07_ModeSups_c51 : Code := seqL law07_ModeSups_c50
noncomputable def law07_ModeSups_c52 : Code := seqR law07_ModeSups_c50
noncomputable def law07_ModeSups_c53 : Code := seqL law07_ModeSups_c51
noncomputable def law07_ModeSups_c54 : Code := seqR law07_ModeSups_c51
noncomputable def law07_ModeSups_c53o : Array Oper := regO law07_ModeSups_c53
noncomputable def law07_ModeSups_c55 : Code := condT law07_ModeSups_c54
noncomputable def law07_ModeSups_c56 : Code := condE law07_ModeSups_c54
noncomputable def law07_ModeSups_c57 : Code := seqL law07_ModeSups_c55
noncomputable def law07_ModeSups_c58 : Code := seqR law07_ModeSups_c55
noncomputable def law07_ModeSups_c57o : Array Oper := regO law07_ModeSups_c57
noncomputable def law07_ModeSups_c59 : Code := seqL law07_ModeSups_c52
noncomputable def law07_ModeSups_c60 : Code := seqR law07_ModeSups_c52
noncomputable def law07_ModeSups_c59o : Array Oper := regO law07_ModeSups_c59
noncomputable def law07_ModeSups_c61 : Code := seqL law07_ModeSups_c60
noncomputable def law07_ModeSups_c62 : Code := seqR law07_ModeSups_c60
noncomputable def law07_ModeSups_c61o : Array Oper := regO law07_ModeSups_c61
noncomputable def law07_ModeSups_c63 : Code := seqL law07_ModeSups_c62
noncomputable def law07_ModeSups_c64 : Code := seqR law07_ModeSups_c62
noncomputable def law07_ModeSups_c65 : Code := seqL law07_ModeSups_c63
noncomputable def law07_ModeSups_c66 : Code := seqR law07_ModeSups_c63
noncomputable def law07_ModeSups_c65o : Array Oper := regO law07_ModeSups_c65
noncomputable def law07_ModeSups_c67 : Code := condT law07_ModeSups_c66
noncomputable def law07_ModeSups_c68 : Code := condE law07_ModeSups_c66
noncomputable def law07_ModeSups_c69 : Code := seqL law07_ModeSups_c67
noncomputable def law07_ModeSups_c70 : Code := seqR law07_ModeSups_c67
noncomputable def law07_ModeSups_c69o : Array Oper := regO law07_ModeSups_c69
noncomputable def law07_ModeSups_c71 : Code := seqL law07_ModeSups_c64
noncomputable def law07_ModeSups_c72 : Code := seqR law07_ModeSups_c64
noncomputable def law07_ModeSups_c71o : Array Oper := regO law07_ModeSups_c71
noncomputable def law07_ModeSups_c73 : Code := seqL law07_ModeSups_c72
noncomputable def law07_ModeSups_c74 : Code := seqR law07_ModeSups_c72
noncomputable def law07_ModeSups_c73o : Array Oper := regO law07_ModeSups_c73
theorem law07_ModeSups_ok (n : Nat) (p0 : Int) (p1 : Int) (p2 : Int) (r : Bool) (w : World)  (h : law07_ModeSups n p0 p1 p2 = some r) :
    Calls Try.prog 4 #[.int .i64 p0, .int .i64 p1, .int .i64 p2] w fun e w' => e = .returned (.bool r) ∧ Ext w w' := by
  unfold law07_ModeSups at h
  refine enter 142 Try.func4 rfl (by kernel_rfl) (by simp) fun a hA => ?_
  change law07_ModeSups_c0.wp _ _ _ _
  refine c_seq law07_ModeSups_c1 law07_ModeSups_c2 (by kernel_rfl) fun K704 hK704 => ?_
  refine c_region law07_ModeSups_c1o 1 (by kernel_rfl) (by kernel_rfl) ?_
  refine wl_run 0 1 [0, 1, 2] hA rfl (L' := [(0, .int .i64 p0), (1, .int .i64 p1), (2, .int .i64 p2)]) (vs := []) (obl := []) (by kernel_rfl) trivial fun a705 hA706 => ?_
  refine wl_end ?_
  refine hK704 _ _ ?_
  refine c_seq law07_ModeSups_c3 law07_ModeSups_c4 (by kernel_rfl) fun K707 hK707 => ?_
  refine c_seq law07_ModeSups_c5 law07_ModeSups_c6 (by kernel_rfl) fun K708 hK708 => ?_
  refine c_region law07_ModeSups_c5o 2 (by kernel_rfl) (by kernel_rfl) ?_
  obtain ⟨y709, hy709, h⟩ := bindS h
  refine wl_call 0 rfl (d := some 16) (g := 8) (args := #[]) hA706 (by kernel_rfl) Try.call8 (law07_wakes_ok n y709 w hy709) ?_
  rintro e w710 ⟨rfl, ex711⟩
  refine ⟨_, rfl, fun a712 hA713 => ?_⟩
  refine wl_run 1 1 [0, 1, 2, 17] hA713 rfl (L' := [(0, .int .i64 p0), (1, .int .i64 p1), (2, .int .i64 p2), (17, .bool (!y709))]) (vs := []) (obl := []) (by kernel_rfl) trivial fun a714 hA715 => ?_
  refine wl_end ?_
  refine hK708 _ _ ?_
  refine c_cond law07_ModeSups_c7 law07_ModeSups_c8 (condX law07_ModeSups_c6) (!y709) hA715 (by kernel_rfl) (by kernel_rfl) (by kernel_rfl) (fun hb716 => ?_) (fun hb716 => ?_)
  · replace h := ctrue hb716 h
    refine c_seq law07_ModeSups_c9 law07_ModeSups_c10 (by kernel_rfl) fun K717 hK717 => ?_
    refine c_region law07_ModeSups_c9o 1 (by kernel_rfl) (by kernel_rfl) ?_
    refine wl_run 0 1 [6] hA715 rfl (L' := [(6, .bool false)]) (vs := []) (obl := []) (by kernel_rfl) trivial fun a718 hA719 => ?_
    refine wl_end ?_
    refine hK717 _ _ ?_
    refine c_ret (by kernel_rfl) ?_
    obtain rfl := someI h
    try simp only [Exit.then, Exit.inBlock]
    refine ret1 hA719 6 _ (by kernel_rfl) rfl rfl ?_
    exact ⟨rfl, ex711⟩
  · replace h := cfalse hb716 h
    refine c_skip (by kernel_rfl) ?_
    refine hK707 _ _ ?_
    refine c_seq law07_ModeSups_c11 law07_ModeSups_c12 (by kernel_rfl) fun K720 hK720 => ?_
    refine c_region law07_ModeSups_c11o 8 (by kernel_rfl) (by kernel_rfl) ?_
    refine wl_run 0 2 [0, 1, 2, 19, 20] hA715 rfl (L' := [(0, .int .i64 p0), (1, .int .i64 p1), (2, .int .i64 p2), (19, .int .i64 p0), (20, .int .i64 p1)]) (vs := []) (obl := []) (by kernel_rfl) trivial fun a721 hA722 => ?_
    obtain ⟨y723, hy723, h⟩ := bindS h
    refine wl_call 2 rfl (d := some 21) (g := 9) (args := #[.int .i64 p0, .int .i64 p1]) hA722 (by kernel_rfl) Try.call9 (mode_Sup_ok n _ _ y723 w710 hy723) ?_
    rintro e w724 ⟨rfl, ex725⟩
    refine ⟨_, rfl, fun a726 hA727 => ?_⟩
    refine wl_run 3 5 [0, 1, 2, 7, 8] hA727 rfl (L' := [(0, .int .i64 p0), (1, .int .i64 p1), (2, .int .i64 p2), (7, .int .i64 y723.1), (8, .int .i64 y723.2)]) (vs := []) (obl := []) (by kernel_rfl) trivial fun a728 hA729 => ?_
    refine wl_end ?_
    refine hK720 _ _ ?_
    refine c_seq law07_ModeSups_c13 law07_ModeSups_c14 (by kernel_rfl) fun K730 hK730 => ?_
    refine c_region law07_ModeSups_c13o 8 (by kernel_rfl) (by kernel_rfl) ?_
    refine wl_run 0 2 [0, 1, 2, 7, 8, 25, 26] hA729 rfl (L' := [(0, .int .i64 p0), (1, .int .i64 p1), (2, .int .i64 p2), (7, .int .i64 y723.1), (8, .int .i64 y723.2), (25, .int .i64 p1), (26, .int .i64 p0)]) (vs := []) (obl := []) (by kernel_rfl) trivial fun a731 hA732 => ?_
    obtain ⟨y733, hy733, h⟩ := bindS h
    refine wl_call 2 rfl (d := some 27) (g := 9) (args := #[.int .i64 p1, .int .i64 p0]) hA732 (by kernel_rfl) Try.call9 (mode_Sup_ok n _ _ y733 w724 hy733) ?_
    rintro e w734 ⟨rfl, ex735⟩
    refine ⟨_, rfl, fun a736 hA737 => ?_⟩
    refine wl_run 3 5 [0, 1, 2, 7, 8, 9, 10] hA737 rfl (L' := [(0, .int .i64 p0), (1, .int .i64 p1), (2, .int .i64 p2), (7, .int .i64 y723.1), (8, .int .i64 y723.2), (9, .int .i64 y733.1), (10, .int .i64 y733.2)]) (vs := []) (obl := []) (by kernel_rfl) trivial fun a738 hA739 => ?_
    refine wl_end ?_
    refine hK730 _ _ ?_
    refine c_seq law07_ModeSups_c15 law07_ModeSups_c16 (by kernel_rfl) fun K740 hK740 => ?_
    refine c_seq law07_ModeSups_c17 law07_ModeSups_c18 (by kernel_rfl) fun K741 hK741 => ?_
    refine c_region law07_ModeSups_c17o 8 (by kernel_rfl) (by kernel_rfl) ?_
    refine wl_run 0 4 [0, 1, 2, 7, 8, 9, 33] hA739 rfl (L' := [(0, .int .i64 p0), (1, .int .i64 p1), (2, .int .i64 p2), (7, .int .i64 y723.1), (8, .int .i64 y723.2), (9, .int .i64 y733.1), (33, .bool (y723.2 != y733.2))]) (vs := []) (obl := []) (by kernel_rfl) trivial fun a742 hA743 => ?_
    refine wl_cut 8 rfl rfl fun K744 hK744 => ?_
    have JK744 : ∀ (a750 : Act), Has a750 142 [(0, .int .i64 p0), (1, .int .i64 p1), (2, .int .i64 p2), (7, .int .i64 y723.1), (8, .int .i64 y723.2), (37, .bool ((y723.2 != y733.2) || (y723.1 != y733.1)))] → K744 a750 w734 := by
      intro a750 hA751
      refine hK744 _ _ ?_
      refine wl_end ?_
      refine hK741 _ _ ?_
      refine c_cond law07_ModeSups_c19 law07_ModeSups_c20 (condX law07_ModeSups_c18) ((y723.2 != y733.2) || (y723.1 != y733.1)) hA751 (by kernel_rfl) (by kernel_rfl) (by kernel_rfl) (fun hb753 => ?_) (fun hb753 => ?_)
      · replace h := ctrue hb753 h
        refine c_seq law07_ModeSups_c21 law07_ModeSups_c22 (by kernel_rfl) fun K754 hK754 => ?_
        refine c_region law07_ModeSups_c21o 1 (by kernel_rfl) (by kernel_rfl) ?_
        refine wl_run 0 1 [6] hA751 rfl (L' := [(6, .bool false)]) (vs := []) (obl := []) (by kernel_rfl) trivial fun a755 hA756 => ?_
        refine wl_end ?_
        refine hK754 _ _ ?_
        refine c_ret (by kernel_rfl) ?_
        obtain rfl := someI h
        try simp only [Exit.then, Exit.inBlock]
        refine ret1 hA756 6 _ (by kernel_rfl) rfl rfl ?_
        exact ⟨rfl, (Ext.trans (Ext.trans ex711 ex725) ex735)⟩
      · replace h := cfalse hb753 h
        refine c_skip (by kernel_rfl) ?_
        refine hK740 _ _ ?_
        refine c_seq law07_ModeSups_c23 law07_ModeSups_c24 (by kernel_rfl) fun K757 hK757 => ?_
        refine c_seq law07_ModeSups_c25 law07_ModeSups_c26 (by kernel_rfl) fun K758 hK758 => ?_
        refine c_region law07_ModeSups_c25o 2 (by kernel_rfl) (by kernel_rfl) ?_
        refine wl_run 0 2 [0, 1, 2, 7, 39] hA751 rfl (L' := [(0, .int .i64 p0), (1, .int .i64 p1), (2, .int .i64 p2), (7, .int .i64 y723.1), (39, .bool (y723.2 != 0))]) (vs := []) (obl := []) (by kernel_rfl) trivial fun a759 hA760 => ?_
        refine wl_end ?_
        refine hK758 _ _ ?_
        refine c_cond law07_ModeSups_c27 law07_ModeSups_c28 (condX law07_ModeSups_c26) (y723.2 != 0) hA760 (by kernel_rfl) (by kernel_rfl) (by kernel_rfl) (fun hb761 => ?_) (fun hb761 => ?_)
        · replace h := ctrue hb761 h
          refine c_seq law07_ModeSups_c29 law07_ModeSups_c30 (by kernel_rfl) fun K762 hK762 => ?_
          refine c_region law07_ModeSups_c29o 3 (by kernel_rfl) (by kernel_rfl) ?_
          refine wl_run 0 3 [6] hA760 rfl (L' := [(6, .bool (y723.1 == 0))]) (vs := []) (obl := []) (by kernel_rfl) trivial fun a763 hA764 => ?_
          refine wl_end ?_
          refine hK762 _ _ ?_
          refine c_ret (by kernel_rfl) ?_
          obtain rfl := someI h
          try simp only [Exit.then, Exit.inBlock]
          refine ret1 hA764 6 _ (by kernel_rfl) rfl rfl ?_
          exact ⟨rfl, (Ext.trans (Ext.trans ex711 ex725) ex735)⟩
        · replace h := cfalse hb761 h
          refine c_skip (by kernel_rfl) ?_
          refine hK757 _ _ ?_
          refine c_seq law07_ModeSups_c31 law07_ModeSups_c32 (by kernel_rfl) fun K765 hK765 => ?_
          refine c_seq law07_ModeSups_c33 law07_ModeSups_c34 (by kernel_rfl) fun K766 hK766 => ?_
          refine c_region law07_ModeSups_c33o 26 (by kernel_rfl) (by kernel_rfl) ?_
          refine wl_run 0 2 [0, 1, 2, 7, 42, 43] hA760 rfl (L' := [(0, .int .i64 p0), (1, .int .i64 p1), (2, .int .i64 p2), (7, .int .i64 y723.1), (42, .int .i64 y723.1), (43, .int .i64 p0)]) (vs := []) (obl := []) (by kernel_rfl) trivial fun a767 hA768 => ?_
          obtain ⟨y769, hy769, h⟩ := bindS h
          refine wl_call 2 rfl (d := some 44) (g := 12) (args := #[.int .i64 y723.1, .int .i64 p0]) hA768 (by kernel_rfl) Try.call12 (mode_Covers_ok n _ _ y769 w734 hy769) ?_
          rintro e w770 ⟨rfl, ex771⟩
          refine ⟨_, rfl, fun a772 hA773 => ?_⟩
          refine wl_run 3 2 [0, 1, 2, 7, 46] hA773 rfl (L' := [(0, .int .i64 p0), (1, .int .i64 p1), (2, .int .i64 p2), (7, .int .i64 y723.1), (46, .bool (!y769))]) (vs := []) (obl := []) (by kernel_rfl) trivial fun a774 hA775 => ?_
          refine wl_cut 10 rfl rfl fun K776 hK776 => ?_
          have JK776 : ∀ (p792 : Bool) (a789 : Act) (w788 : World), Ext w770 w788 → Has a789 142 [(0, .int .i64 p0), (1, .int .i64 p1), (2, .int .i64 p2), (7, .int .i64 y723.1), (51, .bool p792)] → law07_ModeSups_j10 n p0 p1 p2 y723 p792 = some r → K776 a789 w788 := by
            intro p792 a789 w788 ex791 hA790 h
            unfold law07_ModeSups_j10 at h
            refine hK776 _ _ ?_
            refine wl_run 10 1 [0, 1, 2, 7, 52] hA790 rfl (L' := [(0, .int .i64 p0), (1, .int .i64 p1), (2, .int .i64 p2), (7, .int .i64 y723.1), (52, .bool p792)]) (vs := []) (obl := []) (by kernel_rfl) trivial fun a793 hA794 => ?_
            refine wl_cut 26 rfl rfl fun K795 hK795 => ?_
            have JK795 : ∀ (p883 : Bool) (a880 : Act) (w879 : World), Ext w788 w879 → Has a880 142 [(0, .int .i64 p0), (1, .int .i64 p1), (2, .int .i64 p2), (7, .int .i64 y723.1), (67, .bool p883)] → law07_ModeSups_j7 n p0 p1 p2 y723 p883 = some r → K795 a880 w879 := by
              intro p883 a880 w879 ex882 hA881 h
              unfold law07_ModeSups_j7 at h
              refine hK795 _ _ ?_
              refine wl_end ?_
              refine hK766 _ _ ?_
              refine c_cond law07_ModeSups_c35 law07_ModeSups_c36 (condX law07_ModeSups_c34) p883 hA881 (by kernel_rfl) (by kernel_rfl) (by kernel_rfl) (fun hb884 => ?_) (fun hb884 => ?_)
              · replace h := ctrue hb884 h
                refine c_seq law07_ModeSups_c37 law07_ModeSups_c38 (by kernel_rfl) fun K885 hK885 => ?_
                refine c_region law07_ModeSups_c37o 1 (by kernel_rfl) (by kernel_rfl) ?_
                refine wl_run 0 1 [6] hA881 rfl (L' := [(6, .bool false)]) (vs := []) (obl := []) (by kernel_rfl) trivial fun a886 hA887 => ?_
                refine wl_end ?_
                refine hK885 _ _ ?_
                refine c_ret (by kernel_rfl) ?_
                obtain rfl := someI h
                try simp only [Exit.then, Exit.inBlock]
                refine ret1 hA887 6 _ (by kernel_rfl) rfl rfl ?_
                exact ⟨rfl, (Ext.trans (Ext.trans (Ext.trans (Ext.trans (Ext.trans ex711 ex725) ex735) ex771) ex791) ex882)⟩
              · replace h := cfalse hb884 h
                refine c_skip (by kernel_rfl) ?_
                refine hK765 _ _ ?_
                refine c_seq law07_ModeSups_c39 law07_ModeSups_c40 (by kernel_rfl) fun K888 hK888 => ?_
                refine c_seq law07_ModeSups_c41 law07_ModeSups_c42 (by kernel_rfl) fun K889 hK889 => ?_
                refine c_region law07_ModeSups_c41o 17 (by kernel_rfl) (by kernel_rfl) ?_
                refine wl_run 0 1 [0, 1, 2, 7, 68] hA881 rfl (L' := [(0, .int .i64 p0), (1, .int .i64 p1), (2, .int .i64 p2), (7, .int .i64 y723.1), (68, .int .i64 p2)]) (vs := []) (obl := []) (by kernel_rfl) trivial fun a890 hA891 => ?_
                obtain ⟨y892, hy892, h⟩ := bindS h
                refine wl_call 1 rfl (d := some 69) (g := 18) (args := #[.int .i64 p2]) hA891 (by kernel_rfl) Try.call18 (mode_Check_ok n _ y892 w879 hy892) ?_
                rintro e w893 ⟨rfl, ex894⟩
                refine ⟨_, rfl, fun a895 hA896 => ?_⟩
                refine wl_run 2 2 [0, 1, 2, 7, 71] hA896 rfl (L' := [(0, .int .i64 p0), (1, .int .i64 p1), (2, .int .i64 p2), (7, .int .i64 y723.1), (71, .bool (y892 == 0))]) (vs := []) (obl := []) (by kernel_rfl) trivial fun a897 hA898 => ?_
                refine wl_cut 17 rfl rfl fun K899 hK899 => ?_
                have JK899 : ∀ (p958 : Bool) (a955 : Act) (w954 : World), Ext w893 w954 → Has a955 142 [(0, .int .i64 p0), (1, .int .i64 p1), (2, .int .i64 p2), (7, .int .i64 y723.1), (84, .bool p958)] → law07_ModeSups_j5 n p0 p1 p2 y723 p958 = some r → K899 a955 w954 := by
                  intro p958 a955 w954 ex957 hA956 h
                  unfold law07_ModeSups_j5 at h
                  refine hK899 _ _ ?_
                  refine wl_end ?_
                  refine hK889 _ _ ?_
                  refine c_cond law07_ModeSups_c43 law07_ModeSups_c44 (condX law07_ModeSups_c42) p958 hA956 (by kernel_rfl) (by kernel_rfl) (by kernel_rfl) (fun hb959 => ?_) (fun hb959 => ?_)
                  · replace h := ctrue hb959 h
                    refine c_seq law07_ModeSups_c45 law07_ModeSups_c46 (by kernel_rfl) fun K960 hK960 => ?_
                    refine c_region law07_ModeSups_c45o 1 (by kernel_rfl) (by kernel_rfl) ?_
                    refine wl_run 0 1 [6] hA956 rfl (L' := [(6, .bool false)]) (vs := []) (obl := []) (by kernel_rfl) trivial fun a961 hA962 => ?_
                    refine wl_end ?_
                    refine hK960 _ _ ?_
                    refine c_ret (by kernel_rfl) ?_
                    obtain rfl := someI h
                    try simp only [Exit.then, Exit.inBlock]
                    refine ret1 hA962 6 _ (by kernel_rfl) rfl rfl ?_
                    exact ⟨rfl, (Ext.trans (Ext.trans (Ext.trans (Ext.trans (Ext.trans (Ext.trans (Ext.trans ex711 ex725) ex735) ex771) ex791) ex882) ex894) ex957)⟩
                  · replace h := cfalse hb959 h
                    refine c_skip (by kernel_rfl) ?_
                    refine hK888 _ _ ?_
                    refine c_seq law07_ModeSups_c47 law07_ModeSups_c48 (by kernel_rfl) fun K963 hK963 => ?_
                    refine c_region law07_ModeSups_c47o 11 (by kernel_rfl) (by kernel_rfl) ?_
                    refine wl_run 0 1 [0, 1, 2, 7, 85] hA956 rfl (L' := [(0, .int .i64 p0), (1, .int .i64 p1), (2, .int .i64 p2), (7, .int .i64 y723.1), (85, .int .i64 p0)]) (vs := []) (obl := []) (by kernel_rfl) trivial fun a964 hA965 => ?_
                    obtain ⟨y966, hy966, h⟩ := bindS h
                    refine wl_call 1 rfl (d := some 86) (g := 19) (args := #[.int .i64 p0]) hA965 (by kernel_rfl) Try.call19 (mode_OfTables_ok n _ y966 w954 hy966) ?_
                    rintro e w967 ⟨rfl, ex968⟩
                    refine ⟨_, rfl, fun a969 hA970 => ?_⟩
                    refine wl_run 2 1 [0, 1, 2, 7, 87] hA970 rfl (L' := [(0, .int .i64 p0), (1, .int .i64 p1), (2, .int .i64 p2), (7, .int .i64 y723.1), (87, .bool y966)]) (vs := []) (obl := []) (by kernel_rfl) trivial fun a971 hA972 => ?_
                    refine wl_cut 6 rfl rfl fun K973 hK973 => ?_
                    have JK973 : ∀ (p989 : Bool) (a986 : Act) (w985 : World), Ext w967 w985 → Has a986 142 [(0, .int .i64 p0), (1, .int .i64 p1), (2, .int .i64 p2), (7, .int .i64 y723.1), (90, .bool p989)] → law07_ModeSups_j4 n p0 p1 p2 y723 p989 = some r → K973 a986 w985 := by
                      intro p989 a986 w985 ex988 hA987 h
                      unfold law07_ModeSups_j4 at h
                      refine hK973 _ _ ?_
                      refine wl_run 6 1 [0, 1, 2, 7, 91] hA987 rfl (L' := [(0, .int .i64 p0), (1, .int .i64 p1), (2, .int .i64 p2), (7, .int .i64 y723.1), (91, .bool p989)]) (vs := []) (obl := []) (by kernel_rfl) trivial fun a990 hA991 => ?_
                      refine wl_cut 10 rfl rfl fun K992 hK992 => ?_
                      have JK992 : ∀ (p1008 : Bool) (a1005 : Act) (w1004 : World), Ext w985 w1004 → Has a1005 142 [(0, .int .i64 p0), (1, .int .i64 p1), (2, .int .i64 p2), (7, .int .i64 y723.1), (94, .bool p1008)] → law07_ModeSups_j3 n p0 p1 p2 y723 p1008 = some r → K992 a1005 w1004 := by
                        intro p1008 a1005 w1004 ex1007 hA1006 h
                        unfold law07_ModeSups_j3 at h
                        refine hK992 _ _ ?_
                        refine wl_run 10 1 [0, 1, 2, 7, 11] hA1006 rfl (L' := [(0, .int .i64 p0), (1, .int .i64 p1), (2, .int .i64 p2), (7, .int .i64 y723.1), (11, .bool p1008)]) (vs := []) (obl := []) (by kernel_rfl) trivial fun a1009 hA1010 => ?_
                        refine wl_end ?_
                        refine hK963 _ _ ?_
                        refine c_seq law07_ModeSups_c49 law07_ModeSups_c50 (by kernel_rfl) fun K1011 hK1011 => ?_
                        refine c_region law07_ModeSups_c49o 11 (by kernel_rfl) (by kernel_rfl) ?_
                        refine wl_run 0 1 [0, 1, 2, 7, 11, 95] hA1010 rfl (L' := [(0, .int .i64 p0), (1, .int .i64 p1), (2, .int .i64 p2), (7, .int .i64 y723.1), (11, .bool p1008), (95, .int .i64 p0)]) (vs := []) (obl := []) (by kernel_rfl) trivial fun a1012 hA1013 => ?_
                        obtain ⟨y1014, hy1014, h⟩ := bindS h
                        refine wl_call 1 rfl (d := some 96) (g := 20) (args := #[.int .i64 p0]) hA1013 (by kernel_rfl) Try.call20 (mode_OfKeys_ok n _ y1014 w1004 hy1014) ?_
                        rintro e w1015 ⟨rfl, ex1016⟩
                        refine ⟨_, rfl, fun a1017 hA1018 => ?_⟩
                        refine wl_run 2 1 [0, 1, 2, 7, 11, 97] hA1018 rfl (L' := [(0, .int .i64 p0), (1, .int .i64 p1), (2, .int .i64 p2), (7, .int .i64 y723.1), (11, .bool p1008), (97, .bool y1014)]) (vs := []) (obl := []) (by kernel_rfl) trivial fun a1019 hA1020 => ?_
                        refine wl_cut 6 rfl rfl fun K1021 hK1021 => ?_
                        have JK1021 : ∀ (p1037 : Bool) (a1034 : Act) (w1033 : World), Ext w1015 w1033 → Has a1034 142 [(0, .int .i64 p0), (1, .int .i64 p1), (2, .int .i64 p2), (7, .int .i64 y723.1), (11, .bool p1008), (100, .bool p1037)] → law07_ModeSups_j2 n p0 p1 p2 y723 p1008 p1037 = some r → K1021 a1034 w1033 := by
                          intro p1037 a1034 w1033 ex1036 hA1035 h
                          unfold law07_ModeSups_j2 at h
                          refine hK1021 _ _ ?_
                          refine wl_run 6 1 [0, 1, 2, 7, 11, 101] hA1035 rfl (L' := [(0, .int .i64 p0), (1, .int .i64 p1), (2, .int .i64 p2), (7, .int .i64 y723.1), (11, .bool p1008), (101, .bool p1037)]) (vs := []) (obl := []) (by kernel_rfl) trivial fun a1038 hA1039 => ?_
                          refine wl_cut 10 rfl rfl fun K1040 hK1040 => ?_
                          have JK1040 : ∀ (p1056 : Bool) (a1053 : Act) (w1052 : World), Ext w1033 w1052 → Has a1053 142 [(0, .int .i64 p0), (1, .int .i64 p1), (2, .int .i64 p2), (7, .int .i64 y723.1), (11, .bool p1008), (104, .bool p1056)] → law07_ModeSups_j1 n p0 p1 p2 y723 p1008 p1056 = some r → K1040 a1053 w1052 := by
                            intro p1056 a1053 w1052 ex1055 hA1054 h
                            unfold law07_ModeSups_j1 at h
                            refine hK1040 _ _ ?_
                            refine wl_run 10 1 [0, 1, 2, 7, 11, 12] hA1054 rfl (L' := [(0, .int .i64 p0), (1, .int .i64 p1), (2, .int .i64 p2), (7, .int .i64 y723.1), (11, .bool p1008), (12, .bool p1056)]) (vs := []) (obl := []) (by kernel_rfl) trivial fun a1057 hA1058 => ?_
                            refine wl_end ?_
                            refine hK1011 _ _ ?_
                            refine c_seq law07_ModeSups_c51 law07_ModeSups_c52 (by kernel_rfl) fun K1059 hK1059 => ?_
                            refine c_seq law07_ModeSups_c53 law07_ModeSups_c54 (by kernel_rfl) fun K1060 hK1060 => ?_
                            refine c_region law07_ModeSups_c53o 6 (by kernel_rfl) (by kernel_rfl) ?_
                            refine wl_run 0 3 [0, 1, 2, 7, 12, 107] hA1058 rfl (L' := [(0, .int .i64 p0), (1, .int .i64 p1), (2, .int .i64 p2), (7, .int .i64 y723.1), (12, .bool p1056), (107, .bool (!p1008))]) (vs := []) (obl := []) (by kernel_rfl) trivial fun a1061 hA1062 => ?_
                            refine wl_cut 6 rfl rfl fun K1063 hK1063 => ?_
                            have JK1063 : ∀ (a1069 : Act), Has a1069 142 [(0, .int .i64 p0), (1, .int .i64 p1), (2, .int .i64 p2), (7, .int .i64 y723.1), (110, .bool ((!p1008) && (!p1056)))] → K1063 a1069 w1052 := by
                              intro a1069 hA1070
                              refine hK1063 _ _ ?_
                              refine wl_end ?_
                              refine hK1060 _ _ ?_
                              refine c_cond law07_ModeSups_c55 law07_ModeSups_c56 (condX law07_ModeSups_c54) ((!p1008) && (!p1056)) hA1070 (by kernel_rfl) (by kernel_rfl) (by kernel_rfl) (fun hb1072 => ?_) (fun hb1072 => ?_)
                              · replace h := ctrue hb1072 h
                                refine c_seq law07_ModeSups_c57 law07_ModeSups_c58 (by kernel_rfl) fun K1073 hK1073 => ?_
                                refine c_region law07_ModeSups_c57o 1 (by kernel_rfl) (by kernel_rfl) ?_
                                refine wl_run 0 1 [6] hA1070 rfl (L' := [(6, .bool true)]) (vs := []) (obl := []) (by kernel_rfl) trivial fun a1074 hA1075 => ?_
                                refine wl_end ?_
                                refine hK1073 _ _ ?_
                                refine c_ret (by kernel_rfl) ?_
                                obtain rfl := someI h
                                try simp only [Exit.then, Exit.inBlock]
                                refine ret1 hA1075 6 _ (by kernel_rfl) rfl rfl ?_
                                exact ⟨rfl, (Ext.trans (Ext.trans (Ext.trans (Ext.trans (Ext.trans (Ext.trans (Ext.trans (Ext.trans (Ext.trans (Ext.trans (Ext.trans (Ext.trans (Ext.trans ex711 ex725) ex735) ex771) ex791) ex882) ex894) ex957) ex968) ex988) ex1007) ex1016) ex1036) ex1055)⟩
                              · replace h := cfalse hb1072 h
                                refine c_skip (by kernel_rfl) ?_
                                refine hK1059 _ _ ?_
                                refine c_seq law07_ModeSups_c59 law07_ModeSups_c60 (by kernel_rfl) fun K1076 hK1076 => ?_
                                refine c_region law07_ModeSups_c59o 8 (by kernel_rfl) (by kernel_rfl) ?_
                                refine wl_run 0 2 [0, 1, 2, 112, 113] hA1070 rfl (L' := [(0, .int .i64 p0), (1, .int .i64 p1), (2, .int .i64 p2), (112, .int .i64 y723.1), (113, .int .i64 p2)]) (vs := []) (obl := []) (by kernel_rfl) trivial fun a1077 hA1078 => ?_
                                obtain ⟨y1079, hy1079, h⟩ := bindS h
                                refine wl_call 2 rfl (d := some 114) (g := 9) (args := #[.int .i64 y723.1, .int .i64 p2]) hA1078 (by kernel_rfl) Try.call9 (mode_Sup_ok n _ _ y1079 w1052 hy1079) ?_
                                rintro e w1080 ⟨rfl, ex1081⟩
                                refine ⟨_, rfl, fun a1082 hA1083 => ?_⟩
                                refine wl_run 3 5 [0, 1, 2, 8, 13] hA1083 rfl (L' := [(0, .int .i64 p0), (1, .int .i64 p1), (2, .int .i64 p2), (8, .int .i64 y1079.2), (13, .int .i64 y1079.1)]) (vs := []) (obl := []) (by kernel_rfl) trivial fun a1084 hA1085 => ?_
                                refine wl_end ?_
                                refine hK1076 _ _ ?_
                                refine c_seq law07_ModeSups_c61 law07_ModeSups_c62 (by kernel_rfl) fun K1086 hK1086 => ?_
                                refine c_region law07_ModeSups_c61o 8 (by kernel_rfl) (by kernel_rfl) ?_
                                refine wl_run 0 2 [0, 8, 13, 118, 119] hA1085 rfl (L' := [(0, .int .i64 p0), (8, .int .i64 y1079.2), (13, .int .i64 y1079.1), (118, .int .i64 p1), (119, .int .i64 p2)]) (vs := []) (obl := []) (by kernel_rfl) trivial fun a1087 hA1088 => ?_
                                obtain ⟨y1089, hy1089, h⟩ := bindS h
                                refine wl_call 2 rfl (d := some 120) (g := 9) (args := #[.int .i64 p1, .int .i64 p2]) hA1088 (by kernel_rfl) Try.call9 (mode_Sup_ok n _ _ y1089 w1080 hy1089) ?_
                                rintro e w1090 ⟨rfl, ex1091⟩
                                refine ⟨_, rfl, fun a1092 hA1093 => ?_⟩
                                refine wl_run 3 5 [0, 8, 10, 13, 14] hA1093 rfl (L' := [(0, .int .i64 p0), (8, .int .i64 y1079.2), (10, .int .i64 y1089.2), (13, .int .i64 y1079.1), (14, .int .i64 y1089.1)]) (vs := []) (obl := []) (by kernel_rfl) trivial fun a1094 hA1095 => ?_
                                refine wl_end ?_
                                refine hK1086 _ _ ?_
                                refine c_seq law07_ModeSups_c63 law07_ModeSups_c64 (by kernel_rfl) fun K1096 hK1096 => ?_
                                refine c_seq law07_ModeSups_c65 law07_ModeSups_c66 (by kernel_rfl) fun K1097 hK1097 => ?_
                                refine c_region law07_ModeSups_c65o 6 (by kernel_rfl) (by kernel_rfl) ?_
                                refine wl_run 0 3 [0, 10, 13, 14, 125] hA1095 rfl (L' := [(0, .int .i64 p0), (10, .int .i64 y1089.2), (13, .int .i64 y1079.1), (14, .int .i64 y1089.1), (125, .bool (y1079.2 != 0))]) (vs := []) (obl := []) (by kernel_rfl) trivial fun a1098 hA1099 => ?_
                                refine wl_cut 6 rfl rfl fun K1100 hK1100 => ?_
                                have JK1100 : ∀ (a1106 : Act), Has a1106 142 [(0, .int .i64 p0), (13, .int .i64 y1079.1), (14, .int .i64 y1089.1), (128, .bool ((y1079.2 != 0) || (y1089.2 != 0)))] → K1100 a1106 w1090 := by
                                  intro a1106 hA1107
                                  refine hK1100 _ _ ?_
                                  refine wl_end ?_
                                  refine hK1097 _ _ ?_
                                  refine c_cond law07_ModeSups_c67 law07_ModeSups_c68 (condX law07_ModeSups_c66) ((y1079.2 != 0) || (y1089.2 != 0)) hA1107 (by kernel_rfl) (by kernel_rfl) (by kernel_rfl) (fun hb1109 => ?_) (fun hb1109 => ?_)
                                  · replace h := ctrue hb1109 h
                                    refine c_seq law07_ModeSups_c69 law07_ModeSups_c70 (by kernel_rfl) fun K1110 hK1110 => ?_
                                    refine c_region law07_ModeSups_c69o 1 (by kernel_rfl) (by kernel_rfl) ?_
                                    refine wl_run 0 1 [6] hA1107 rfl (L' := [(6, .bool false)]) (vs := []) (obl := []) (by kernel_rfl) trivial fun a1111 hA1112 => ?_
                                    refine wl_end ?_
                                    refine hK1110 _ _ ?_
                                    refine c_ret (by kernel_rfl) ?_
                                    obtain rfl := someI h
                                    try simp only [Exit.then, Exit.inBlock]
                                    refine ret1 hA1112 6 _ (by kernel_rfl) rfl rfl ?_
                                    exact ⟨rfl, (Ext.trans (Ext.trans (Ext.trans (Ext.trans (Ext.trans (Ext.trans (Ext.trans (Ext.trans (Ext.trans (Ext.trans (Ext.trans (Ext.trans (Ext.trans (Ext.trans (Ext.trans ex711 ex725) ex735) ex771) ex791) ex882) ex894) ex957) ex968) ex988) ex1007) ex1016) ex1036) ex1055) ex1081) ex1091)⟩
                                  · replace h := cfalse hb1109 h
                                    refine c_skip (by kernel_rfl) ?_
                                    refine hK1096 _ _ ?_
                                    refine c_seq law07_ModeSups_c71 law07_ModeSups_c72 (by kernel_rfl) fun K1113 hK1113 => ?_
                                    refine c_region law07_ModeSups_c71o 8 (by kernel_rfl) (by kernel_rfl) ?_
                                    refine wl_run 0 2 [13, 130, 131] hA1107 rfl (L' := [(13, .int .i64 y1079.1), (130, .int .i64 p0), (131, .int .i64 y1089.1)]) (vs := []) (obl := []) (by kernel_rfl) trivial fun a1114 hA1115 => ?_
                                    obtain ⟨y1116, hy1116, h⟩ := bindS h
                                    refine wl_call 2 rfl (d := some 132) (g := 9) (args := #[.int .i64 p0, .int .i64 y1089.1]) hA1115 (by kernel_rfl) Try.call9 (mode_Sup_ok n _ _ y1116 w1090 hy1116) ?_
                                    rintro e w1117 ⟨rfl, ex1118⟩
                                    refine ⟨_, rfl, fun a1119 hA1120 => ?_⟩
                                    refine wl_run 3 5 [10, 13, 15] hA1120 rfl (L' := [(10, .int .i64 y1116.2), (13, .int .i64 y1079.1), (15, .int .i64 y1116.1)]) (vs := []) (obl := []) (by kernel_rfl) trivial fun a1121 hA1122 => ?_
                                    refine wl_end ?_
                                    refine hK1113 _ _ ?_
                                    refine c_seq law07_ModeSups_c73 law07_ModeSups_c74 (by kernel_rfl) fun K1123 hK1123 => ?_
                                    refine c_region law07_ModeSups_c73o 8 (by kernel_rfl) (by kernel_rfl) ?_
                                    refine wl_run 0 3 [13, 15, 137] hA1122 rfl (L' := [(13, .int .i64 y1079.1), (15, .int .i64 y1116.1), (137, .bool (y1116.2 == 0))]) (vs := []) (obl := []) (by kernel_rfl) trivial fun a1124 hA1125 => ?_
                                    refine wl_cut 7 rfl rfl fun K1126 hK1126 => ?_
                                    have JK1126 : ∀ (a1132 : Act), Has a1132 142 [(141, .bool ((y1116.2 == 0) && (y1079.1 == y1116.1)))] → K1126 a1132 w1117 := by
                                      intro a1132 hA1133
                                      refine hK1126 _ _ ?_
                                      refine wl_run 7 1 [6] hA1133 rfl (L' := [(6, .bool ((y1116.2 == 0) && (y1079.1 == y1116.1)))]) (vs := []) (obl := []) (by kernel_rfl) trivial fun a1135 hA1136 => ?_
                                      refine wl_end ?_
                                      refine hK1123 _ _ ?_
                                      refine c_ret (by kernel_rfl) ?_
                                      obtain rfl := someI h
                                      try simp only [Exit.then, Exit.inBlock]
                                      refine ret1 hA1136 6 _ (by kernel_rfl) rfl rfl ?_
                                      exact ⟨rfl, (Ext.trans (Ext.trans (Ext.trans (Ext.trans (Ext.trans (Ext.trans (Ext.trans (Ext.trans (Ext.trans (Ext.trans (Ext.trans (Ext.trans (Ext.trans (Ext.trans (Ext.trans (Ext.trans ex711 ex725) ex735) ex771) ex791) ex882) ex894) ex957) ex968) ex988) ex1007) ex1016) ex1036) ex1055) ex1081) ex1091) ex1118)⟩
                                    cases hb1137 : (y1116.2 == 0)
                                    · have hA1138 := Has.to (L' := [(13, .int .i64 y1079.1), (15, .int .i64 y1116.1), (137, .bool false)]) hA1125 (by rw [hb1137])
                                      refine wl_run 3 4 [141] hA1138 rfl (L' := [(141, .bool false)]) (vs := []) (obl := []) (by kernel_rfl) trivial fun a1140 hA1141 => ?_
                                      refine wl_end ?_
                                      exact JK1126 a1140 (Has.to (Has.keep hA1141 [141] rfl) (by rw [hb1137]; rfl))
                                    · have hA1142 := Has.to (L' := [(13, .int .i64 y1079.1), (15, .int .i64 y1116.1), (137, .bool true)]) hA1125 (by rw [hb1137])
                                      refine wl_run 3 4 [141] hA1142 rfl (L' := [(141, .bool (y1079.1 == y1116.1))]) (vs := []) (obl := []) (by kernel_rfl) trivial fun a1144 hA1145 => ?_
                                      refine wl_end ?_
                                      exact JK1126 a1144 (Has.to (Has.keep hA1145 [141] rfl) (by rw [hb1137]; rfl))
                                cases hb1146 : (y1079.2 != 0)
                                · have hA1147 := Has.to (L' := [(0, .int .i64 p0), (10, .int .i64 y1089.2), (13, .int .i64 y1079.1), (14, .int .i64 y1089.1), (125, .bool false)]) hA1099 (by rw [hb1146])
                                  refine wl_run 3 3 [0, 13, 14, 128] hA1147 rfl (L' := [(0, .int .i64 p0), (13, .int .i64 y1079.1), (14, .int .i64 y1089.1), (128, .bool (y1089.2 != 0))]) (vs := []) (obl := []) (by kernel_rfl) trivial fun a1149 hA1150 => ?_
                                  refine wl_end ?_
                                  exact JK1100 a1149 (Has.to (Has.keep hA1150 [0, 13, 14, 128] rfl) (by rw [hb1146]; rfl))
                                · have hA1151 := Has.to (L' := [(0, .int .i64 p0), (10, .int .i64 y1089.2), (13, .int .i64 y1079.1), (14, .int .i64 y1089.1), (125, .bool true)]) hA1099 (by rw [hb1146])
                                  refine wl_run 3 3 [0, 13, 14, 128] hA1151 rfl (L' := [(0, .int .i64 p0), (13, .int .i64 y1079.1), (14, .int .i64 y1089.1), (128, .bool true)]) (vs := []) (obl := []) (by kernel_rfl) trivial fun a1153 hA1154 => ?_
                                  refine wl_end ?_
                                  exact JK1100 a1153 (Has.to (Has.keep hA1154 [0, 13, 14, 128] rfl) (by rw [hb1146]; rfl))
                            cases hb1155 : (!p1008)
                            · have hA1156 := Has.to (L' := [(0, .int .i64 p0), (1, .int .i64 p1), (2, .int .i64 p2), (7, .int .i64 y723.1), (12, .bool p1056), (107, .bool false)]) hA1062 (by rw [hb1155])
                              refine wl_run 3 3 [0, 1, 2, 7, 110] hA1156 rfl (L' := [(0, .int .i64 p0), (1, .int .i64 p1), (2, .int .i64 p2), (7, .int .i64 y723.1), (110, .bool false)]) (vs := []) (obl := []) (by kernel_rfl) trivial fun a1158 hA1159 => ?_
                              refine wl_end ?_
                              exact JK1063 a1158 (Has.to (Has.keep hA1159 [0, 1, 2, 7, 110] rfl) (by rw [hb1155]; rfl))
                            · have hA1160 := Has.to (L' := [(0, .int .i64 p0), (1, .int .i64 p1), (2, .int .i64 p2), (7, .int .i64 y723.1), (12, .bool p1056), (107, .bool true)]) hA1062 (by rw [hb1155])
                              refine wl_run 3 3 [0, 1, 2, 7, 110] hA1160 rfl (L' := [(0, .int .i64 p0), (1, .int .i64 p1), (2, .int .i64 p2), (7, .int .i64 y723.1), (110, .bool (!p1056))]) (vs := []) (obl := []) (by kernel_rfl) trivial fun a1162 hA1163 => ?_
                              refine wl_end ?_
                              exact JK1063 a1162 (Has.to (Has.keep hA1163 [0, 1, 2, 7, 110] rfl) (by rw [hb1155]; rfl))
                          obtain ⟨p1056, hv1165, h⟩ := bindS h
                          cases hb1164 : p1037
                          · have hA1166 := Has.to (L' := [(0, .int .i64 p0), (1, .int .i64 p1), (2, .int .i64 p2), (7, .int .i64 y723.1), (11, .bool p1008), (101, .bool false)]) hA1039 (by rw [hb1164])
                            replace hv1165 := cfalse hb1164 hv1165
                            have hk1167 := h
                            clear h
                            have h := hv1165
                            refine wl_run 7 3 [0, 1, 2, 7, 11, 104] hA1166 rfl (L' := [(0, .int .i64 p0), (1, .int .i64 p1), (2, .int .i64 p2), (7, .int .i64 y723.1), (11, .bool p1008), (104, .bool false)]) (vs := []) (obl := []) (by kernel_rfl) trivial fun a1168 hA1169 => ?_
                            refine wl_end ?_
                            obtain rfl := someI h
                            exact JK1040 _ a1168 w1033 (Ext.refl _) (Has.keep hA1169 [0, 1, 2, 7, 11, 104] rfl) hk1167
                          · have hA1170 := Has.to (L' := [(0, .int .i64 p0), (1, .int .i64 p1), (2, .int .i64 p2), (7, .int .i64 y723.1), (11, .bool p1008), (101, .bool true)]) hA1039 (by rw [hb1164])
                            replace hv1165 := ctrue hb1164 hv1165
                            have hk1171 := h
                            clear h
                            have h := hv1165
                            refine wl_run 7 1 [0, 1, 2, 7, 11, 101, 102] hA1170 rfl (L' := [(0, .int .i64 p0), (1, .int .i64 p1), (2, .int .i64 p2), (7, .int .i64 y723.1), (11, .bool p1008), (101, .bool true), (102, .int .i64 p2)]) (vs := []) (obl := []) (by kernel_rfl) trivial fun a1172 hA1173 => ?_
                            obtain ⟨y1174, hy1174, h⟩ := bindS h
                            refine wl_call 8 rfl (d := some 103) (g := 20) (args := #[.int .i64 p2]) hA1173 (by kernel_rfl) Try.call20 (mode_OfKeys_ok n _ y1174 w1033 hy1174) ?_
                            rintro e w1175 ⟨rfl, ex1176⟩
                            refine ⟨_, rfl, fun a1177 hA1178 => ?_⟩
                            refine wl_run 9 1 [0, 1, 2, 7, 11, 104] hA1178 rfl (L' := [(0, .int .i64 p0), (1, .int .i64 p1), (2, .int .i64 p2), (7, .int .i64 y723.1), (11, .bool p1008), (104, .bool y1174)]) (vs := []) (obl := []) (by kernel_rfl) trivial fun a1179 hA1180 => ?_
                            refine wl_end ?_
                            obtain rfl := someI h
                            exact JK1040 _ a1179 w1175 ex1176 (Has.keep hA1180 [0, 1, 2, 7, 11, 104] rfl) hk1171
                        obtain ⟨p1037, hv1182, h⟩ := bindS h
                        cases hb1181 : y1014
                        · have hA1183 := Has.to (L' := [(0, .int .i64 p0), (1, .int .i64 p1), (2, .int .i64 p2), (7, .int .i64 y723.1), (11, .bool p1008), (97, .bool false)]) hA1020 (by rw [hb1181])
                          replace hv1182 := cfalse hb1181 hv1182
                          have hk1184 := h
                          clear h
                          have h := hv1182
                          refine wl_run 3 3 [0, 1, 2, 7, 11, 100] hA1183 rfl (L' := [(0, .int .i64 p0), (1, .int .i64 p1), (2, .int .i64 p2), (7, .int .i64 y723.1), (11, .bool p1008), (100, .bool false)]) (vs := []) (obl := []) (by kernel_rfl) trivial fun a1185 hA1186 => ?_
                          refine wl_end ?_
                          obtain rfl := someI h
                          exact JK1021 _ a1185 w1015 (Ext.refl _) (Has.keep hA1186 [0, 1, 2, 7, 11, 100] rfl) hk1184
                        · have hA1187 := Has.to (L' := [(0, .int .i64 p0), (1, .int .i64 p1), (2, .int .i64 p2), (7, .int .i64 y723.1), (11, .bool p1008), (97, .bool true)]) hA1020 (by rw [hb1181])
                          replace hv1182 := ctrue hb1181 hv1182
                          have hk1188 := h
                          clear h
                          have h := hv1182
                          refine wl_run 3 1 [0, 1, 2, 7, 11, 97, 98] hA1187 rfl (L' := [(0, .int .i64 p0), (1, .int .i64 p1), (2, .int .i64 p2), (7, .int .i64 y723.1), (11, .bool p1008), (97, .bool true), (98, .int .i64 p1)]) (vs := []) (obl := []) (by kernel_rfl) trivial fun a1189 hA1190 => ?_
                          obtain ⟨y1191, hy1191, h⟩ := bindS h
                          refine wl_call 4 rfl (d := some 99) (g := 20) (args := #[.int .i64 p1]) hA1190 (by kernel_rfl) Try.call20 (mode_OfKeys_ok n _ y1191 w1015 hy1191) ?_
                          rintro e w1192 ⟨rfl, ex1193⟩
                          refine ⟨_, rfl, fun a1194 hA1195 => ?_⟩
                          refine wl_run 5 1 [0, 1, 2, 7, 11, 100] hA1195 rfl (L' := [(0, .int .i64 p0), (1, .int .i64 p1), (2, .int .i64 p2), (7, .int .i64 y723.1), (11, .bool p1008), (100, .bool y1191)]) (vs := []) (obl := []) (by kernel_rfl) trivial fun a1196 hA1197 => ?_
                          refine wl_end ?_
                          obtain rfl := someI h
                          exact JK1021 _ a1196 w1192 ex1193 (Has.keep hA1197 [0, 1, 2, 7, 11, 100] rfl) hk1188
                      obtain ⟨p1008, hv1199, h⟩ := bindS h
                      cases hb1198 : p989
                      · have hA1200 := Has.to (L' := [(0, .int .i64 p0), (1, .int .i64 p1), (2, .int .i64 p2), (7, .int .i64 y723.1), (91, .bool false)]) hA991 (by rw [hb1198])
                        replace hv1199 := cfalse hb1198 hv1199
                        have hk1201 := h
                        clear h
                        have h := hv1199
                        refine wl_run 7 3 [0, 1, 2, 7, 94] hA1200 rfl (L' := [(0, .int .i64 p0), (1, .int .i64 p1), (2, .int .i64 p2), (7, .int .i64 y723.1), (94, .bool false)]) (vs := []) (obl := []) (by kernel_rfl) trivial fun a1202 hA1203 => ?_
                        refine wl_end ?_
                        obtain rfl := someI h
                        exact JK992 _ a1202 w985 (Ext.refl _) (Has.keep hA1203 [0, 1, 2, 7, 94] rfl) hk1201
                      · have hA1204 := Has.to (L' := [(0, .int .i64 p0), (1, .int .i64 p1), (2, .int .i64 p2), (7, .int .i64 y723.1), (91, .bool true)]) hA991 (by rw [hb1198])
                        replace hv1199 := ctrue hb1198 hv1199
                        have hk1205 := h
                        clear h
                        have h := hv1199
                        refine wl_run 7 1 [0, 1, 2, 7, 91, 92] hA1204 rfl (L' := [(0, .int .i64 p0), (1, .int .i64 p1), (2, .int .i64 p2), (7, .int .i64 y723.1), (91, .bool true), (92, .int .i64 p2)]) (vs := []) (obl := []) (by kernel_rfl) trivial fun a1206 hA1207 => ?_
                        obtain ⟨y1208, hy1208, h⟩ := bindS h
                        refine wl_call 8 rfl (d := some 93) (g := 19) (args := #[.int .i64 p2]) hA1207 (by kernel_rfl) Try.call19 (mode_OfTables_ok n _ y1208 w985 hy1208) ?_
                        rintro e w1209 ⟨rfl, ex1210⟩
                        refine ⟨_, rfl, fun a1211 hA1212 => ?_⟩
                        refine wl_run 9 1 [0, 1, 2, 7, 94] hA1212 rfl (L' := [(0, .int .i64 p0), (1, .int .i64 p1), (2, .int .i64 p2), (7, .int .i64 y723.1), (94, .bool y1208)]) (vs := []) (obl := []) (by kernel_rfl) trivial fun a1213 hA1214 => ?_
                        refine wl_end ?_
                        obtain rfl := someI h
                        exact JK992 _ a1213 w1209 ex1210 (Has.keep hA1214 [0, 1, 2, 7, 94] rfl) hk1205
                    obtain ⟨p989, hv1216, h⟩ := bindS h
                    cases hb1215 : y966
                    · have hA1217 := Has.to (L' := [(0, .int .i64 p0), (1, .int .i64 p1), (2, .int .i64 p2), (7, .int .i64 y723.1), (87, .bool false)]) hA972 (by rw [hb1215])
                      replace hv1216 := cfalse hb1215 hv1216
                      have hk1218 := h
                      clear h
                      have h := hv1216
                      refine wl_run 3 3 [0, 1, 2, 7, 90] hA1217 rfl (L' := [(0, .int .i64 p0), (1, .int .i64 p1), (2, .int .i64 p2), (7, .int .i64 y723.1), (90, .bool false)]) (vs := []) (obl := []) (by kernel_rfl) trivial fun a1219 hA1220 => ?_
                      refine wl_end ?_
                      obtain rfl := someI h
                      exact JK973 _ a1219 w967 (Ext.refl _) (Has.keep hA1220 [0, 1, 2, 7, 90] rfl) hk1218
                    · have hA1221 := Has.to (L' := [(0, .int .i64 p0), (1, .int .i64 p1), (2, .int .i64 p2), (7, .int .i64 y723.1), (87, .bool true)]) hA972 (by rw [hb1215])
                      replace hv1216 := ctrue hb1215 hv1216
                      have hk1222 := h
                      clear h
                      have h := hv1216
                      refine wl_run 3 1 [0, 1, 2, 7, 87, 88] hA1221 rfl (L' := [(0, .int .i64 p0), (1, .int .i64 p1), (2, .int .i64 p2), (7, .int .i64 y723.1), (87, .bool true), (88, .int .i64 p1)]) (vs := []) (obl := []) (by kernel_rfl) trivial fun a1223 hA1224 => ?_
                      obtain ⟨y1225, hy1225, h⟩ := bindS h
                      refine wl_call 4 rfl (d := some 89) (g := 19) (args := #[.int .i64 p1]) hA1224 (by kernel_rfl) Try.call19 (mode_OfTables_ok n _ y1225 w967 hy1225) ?_
                      rintro e w1226 ⟨rfl, ex1227⟩
                      refine ⟨_, rfl, fun a1228 hA1229 => ?_⟩
                      refine wl_run 5 1 [0, 1, 2, 7, 90] hA1229 rfl (L' := [(0, .int .i64 p0), (1, .int .i64 p1), (2, .int .i64 p2), (7, .int .i64 y723.1), (90, .bool y1225)]) (vs := []) (obl := []) (by kernel_rfl) trivial fun a1230 hA1231 => ?_
                      refine wl_end ?_
                      obtain rfl := someI h
                      exact JK973 _ a1230 w1226 ex1227 (Has.keep hA1231 [0, 1, 2, 7, 90] rfl) hk1222
                obtain ⟨p958, hv1233, h⟩ := bindS h
                cases hb1232 : (y892 == 0)
                · have hA1234 := Has.to (L' := [(0, .int .i64 p0), (1, .int .i64 p1), (2, .int .i64 p2), (7, .int .i64 y723.1), (71, .bool false)]) hA898 (by rw [hb1232])
                  replace hv1233 := cfalse hb1232 hv1233
                  have hk1235 := h
                  clear h
                  have h := hv1233
                  refine wl_run 4 13 [0, 1, 2, 7, 84] hA1234 rfl (L' := [(0, .int .i64 p0), (1, .int .i64 p1), (2, .int .i64 p2), (7, .int .i64 y723.1), (84, .bool false)]) (vs := []) (obl := []) (by kernel_rfl) trivial fun a1236 hA1237 => ?_
                  refine wl_end ?_
                  obtain rfl := someI h
                  exact JK899 _ a1236 w893 (Ext.refl _) (Has.keep hA1237 [0, 1, 2, 7, 84] rfl) hk1235
                · have hA1238 := Has.to (L' := [(0, .int .i64 p0), (1, .int .i64 p1), (2, .int .i64 p2), (7, .int .i64 y723.1), (71, .bool true)]) hA898 (by rw [hb1232])
                  replace hv1233 := ctrue hb1232 hv1233
                  have hk1239 := h
                  clear h
                  have h := hv1233
                  refine wl_run 4 2 [0, 1, 2, 7, 71, 72, 73] hA1238 rfl (L' := [(0, .int .i64 p0), (1, .int .i64 p1), (2, .int .i64 p2), (7, .int .i64 y723.1), (71, .bool true), (72, .int .i64 y723.1), (73, .int .i64 p2)]) (vs := []) (obl := []) (by kernel_rfl) trivial fun a1240 hA1241 => ?_
                  obtain ⟨y1242, hy1242, h⟩ := bindS h
                  refine wl_call 6 rfl (d := some 74) (g := 10) (args := #[.int .i64 y723.1, .int .i64 p2]) hA1241 (by kernel_rfl) Try.call10 (mode_Goes_ok n _ _ y1242 w893 hy1242) ?_
                  rintro e w1243 ⟨rfl, ex1244⟩
                  refine ⟨_, rfl, fun a1245 hA1246 => ?_⟩
                  refine wl_run 7 2 [0, 1, 2, 7, 71, 74, 75, 76] hA1246 rfl (L' := [(0, .int .i64 p0), (1, .int .i64 p1), (2, .int .i64 p2), (7, .int .i64 y723.1), (71, .bool true), (74, .bool y1242), (75, .int .i64 p0), (76, .int .i64 p2)]) (vs := []) (obl := []) (by kernel_rfl) trivial fun a1247 hA1248 => ?_
                  obtain ⟨y1249, hy1249, h⟩ := bindS h
                  refine wl_call 9 rfl (d := some 77) (g := 10) (args := #[.int .i64 p0, .int .i64 p2]) hA1248 (by kernel_rfl) Try.call10 (mode_Goes_ok n _ _ y1249 w1243 hy1249) ?_
                  rintro e w1250 ⟨rfl, ex1251⟩
                  refine ⟨_, rfl, fun a1252 hA1253 => ?_⟩
                  refine wl_run 10 1 [0, 1, 2, 7, 71, 74, 78] hA1253 rfl (L' := [(0, .int .i64 p0), (1, .int .i64 p1), (2, .int .i64 p2), (7, .int .i64 y723.1), (71, .bool true), (74, .bool y1242), (78, .bool y1249)]) (vs := []) (obl := []) (by kernel_rfl) trivial fun a1254 hA1255 => ?_
                  refine wl_cut 15 rfl rfl fun K1256 hK1256 => ?_
                  have JK1256 : ∀ (p1272 : Bool) (a1269 : Act) (w1268 : World), Ext w1250 w1268 → Has a1269 142 [(0, .int .i64 p0), (1, .int .i64 p1), (2, .int .i64 p2), (7, .int .i64 y723.1), (71, .bool true), (74, .bool y1242), (82, .bool p1272)] → law07_ModeSups_j6 n y1242 p1272 = some p958 → K1256 a1269 w1268 := by
                    intro p1272 a1269 w1268 ex1271 hA1270 h
                    unfold law07_ModeSups_j6 at h
                    refine hK1256 _ _ ?_
                    refine wl_run 15 2 [0, 1, 2, 7, 84] hA1270 rfl (L' := [(0, .int .i64 p0), (1, .int .i64 p1), (2, .int .i64 p2), (7, .int .i64 y723.1), (84, .bool (!(y1242 == p1272)))]) (vs := []) (obl := []) (by kernel_rfl) trivial fun a1273 hA1274 => ?_
                    refine wl_end ?_
                    obtain rfl := someI h
                    exact JK899 _ a1273 w1268 (Ext.trans (Ext.trans ex1244 ex1251) ex1271) (Has.keep hA1274 [0, 1, 2, 7, 84] rfl) hk1239
                  obtain ⟨p1272, hv1276, h⟩ := bindS h
                  cases hb1275 : y1249
                  · have hA1277 := Has.to (L' := [(0, .int .i64 p0), (1, .int .i64 p1), (2, .int .i64 p2), (7, .int .i64 y723.1), (71, .bool true), (74, .bool y1242), (78, .bool false)]) hA1255 (by rw [hb1275])
                    replace hv1276 := cfalse hb1275 hv1276
                    have hk1278 := h
                    clear h
                    have h := hv1276
                    refine wl_run 11 4 [0, 1, 2, 7, 71, 74, 82] hA1277 rfl (L' := [(0, .int .i64 p0), (1, .int .i64 p1), (2, .int .i64 p2), (7, .int .i64 y723.1), (71, .bool true), (74, .bool y1242), (82, .bool false)]) (vs := []) (obl := []) (by kernel_rfl) trivial fun a1279 hA1280 => ?_
                    refine wl_end ?_
                    obtain rfl := someI h
                    exact JK1256 _ a1279 w1250 (Ext.refl _) (Has.keep hA1280 [0, 1, 2, 7, 71, 74, 82] rfl) hk1278
                  · have hA1281 := Has.to (L' := [(0, .int .i64 p0), (1, .int .i64 p1), (2, .int .i64 p2), (7, .int .i64 y723.1), (71, .bool true), (74, .bool y1242), (78, .bool true)]) hA1255 (by rw [hb1275])
                    replace hv1276 := ctrue hb1275 hv1276
                    have hk1282 := h
                    clear h
                    have h := hv1276
                    refine wl_run 11 2 [0, 1, 2, 7, 71, 74, 78, 79, 80] hA1281 rfl (L' := [(0, .int .i64 p0), (1, .int .i64 p1), (2, .int .i64 p2), (7, .int .i64 y723.1), (71, .bool true), (74, .bool y1242), (78, .bool true), (79, .int .i64 p1), (80, .int .i64 p2)]) (vs := []) (obl := []) (by kernel_rfl) trivial fun a1283 hA1284 => ?_
                    obtain ⟨y1285, hy1285, h⟩ := bindS h
                    refine wl_call 13 rfl (d := some 81) (g := 10) (args := #[.int .i64 p1, .int .i64 p2]) hA1284 (by kernel_rfl) Try.call10 (mode_Goes_ok n _ _ y1285 w1250 hy1285) ?_
                    rintro e w1286 ⟨rfl, ex1287⟩
                    refine ⟨_, rfl, fun a1288 hA1289 => ?_⟩
                    refine wl_run 14 1 [0, 1, 2, 7, 71, 74, 82] hA1289 rfl (L' := [(0, .int .i64 p0), (1, .int .i64 p1), (2, .int .i64 p2), (7, .int .i64 y723.1), (71, .bool true), (74, .bool y1242), (82, .bool y1285)]) (vs := []) (obl := []) (by kernel_rfl) trivial fun a1290 hA1291 => ?_
                    refine wl_end ?_
                    obtain rfl := someI h
                    exact JK1256 _ a1290 w1286 ex1287 (Has.keep hA1291 [0, 1, 2, 7, 71, 74, 82] rfl) hk1282
            obtain ⟨p883, hv1293, h⟩ := bindS h
            cases hb1292 : p792
            · have hA1294 := Has.to (L' := [(0, .int .i64 p0), (1, .int .i64 p1), (2, .int .i64 p2), (7, .int .i64 y723.1), (52, .bool false)]) hA794 (by rw [hb1292])
              replace hv1293 := cfalse hb1292 hv1293
              have hk1295 := h
              clear h
              have h := hv1293
              refine wl_run 11 2 [0, 1, 2, 7, 52, 53, 54] hA1294 rfl (L' := [(0, .int .i64 p0), (1, .int .i64 p1), (2, .int .i64 p2), (7, .int .i64 y723.1), (52, .bool false), (53, .int .i64 p2), (54, .int .i64 p0)]) (vs := []) (obl := []) (by kernel_rfl) trivial fun a1296 hA1297 => ?_
              obtain ⟨y1298, hy1298, h⟩ := bindS h
              refine wl_call 13 rfl (d := some 55) (g := 12) (args := #[.int .i64 p2, .int .i64 p0]) hA1297 (by kernel_rfl) Try.call12 (mode_Covers_ok n _ _ y1298 w788 hy1298) ?_
              rintro e w1299 ⟨rfl, ex1300⟩
              refine ⟨_, rfl, fun a1301 hA1302 => ?_⟩
              refine wl_run 14 1 [0, 1, 2, 7, 52, 56] hA1302 rfl (L' := [(0, .int .i64 p0), (1, .int .i64 p1), (2, .int .i64 p2), (7, .int .i64 y723.1), (52, .bool false), (56, .bool y1298)]) (vs := []) (obl := []) (by kernel_rfl) trivial fun a1303 hA1304 => ?_
              refine wl_cut 19 rfl rfl fun K1305 hK1305 => ?_
              have JK1305 : ∀ (p1321 : Bool) (a1318 : Act) (w1317 : World), Ext w1299 w1317 → Has a1318 142 [(0, .int .i64 p0), (1, .int .i64 p1), (2, .int .i64 p2), (7, .int .i64 y723.1), (52, .bool false), (60, .bool p1321)] → law07_ModeSups_j9 n p2 y723 p1321 = some p883 → K1305 a1318 w1317 := by
                intro p1321 a1318 w1317 ex1320 hA1319 h
                unfold law07_ModeSups_j9 at h
                refine hK1305 _ _ ?_
                refine wl_run 19 1 [0, 1, 2, 7, 52, 61] hA1319 rfl (L' := [(0, .int .i64 p0), (1, .int .i64 p1), (2, .int .i64 p2), (7, .int .i64 y723.1), (52, .bool false), (61, .bool p1321)]) (vs := []) (obl := []) (by kernel_rfl) trivial fun a1322 hA1323 => ?_
                refine wl_cut 25 rfl rfl fun K1324 hK1324 => ?_
                have JK1324 : ∀ (p1340 : Bool) (a1337 : Act) (w1336 : World), Ext w1317 w1336 → Has a1337 142 [(0, .int .i64 p0), (1, .int .i64 p1), (2, .int .i64 p2), (7, .int .i64 y723.1), (52, .bool false), (66, .bool p1340)] → law07_ModeSups_j8 n p1340 = some p883 → K1324 a1337 w1336 := by
                  intro p1340 a1337 w1336 ex1339 hA1338 h
                  unfold law07_ModeSups_j8 at h
                  refine hK1324 _ _ ?_
                  refine wl_run 25 1 [0, 1, 2, 7, 67] hA1338 rfl (L' := [(0, .int .i64 p0), (1, .int .i64 p1), (2, .int .i64 p2), (7, .int .i64 y723.1), (67, .bool p1340)]) (vs := []) (obl := []) (by kernel_rfl) trivial fun a1341 hA1342 => ?_
                  refine wl_end ?_
                  obtain rfl := someI h
                  exact JK795 _ a1341 w1336 (Ext.trans (Ext.trans ex1300 ex1320) ex1339) (Has.keep hA1342 [0, 1, 2, 7, 67] rfl) hk1295
                obtain ⟨p1340, hv1344, h⟩ := bindS h
                cases hb1343 : p1321
                · have hA1345 := Has.to (L' := [(0, .int .i64 p0), (1, .int .i64 p1), (2, .int .i64 p2), (7, .int .i64 y723.1), (52, .bool false), (61, .bool false)]) hA1323 (by rw [hb1343])
                  replace hv1344 := cfalse hb1343 hv1344
                  have hk1346 := h
                  clear h
                  have h := hv1344
                  refine wl_run 20 5 [0, 1, 2, 7, 52, 66] hA1345 rfl (L' := [(0, .int .i64 p0), (1, .int .i64 p1), (2, .int .i64 p2), (7, .int .i64 y723.1), (52, .bool false), (66, .bool false)]) (vs := []) (obl := []) (by kernel_rfl) trivial fun a1347 hA1348 => ?_
                  refine wl_end ?_
                  obtain rfl := someI h
                  exact JK1324 _ a1347 w1317 (Ext.refl _) (Has.keep hA1348 [0, 1, 2, 7, 52, 66] rfl) hk1346
                · have hA1349 := Has.to (L' := [(0, .int .i64 p0), (1, .int .i64 p1), (2, .int .i64 p2), (7, .int .i64 y723.1), (52, .bool false), (61, .bool true)]) hA1323 (by rw [hb1343])
                  replace hv1344 := ctrue hb1343 hv1344
                  have hk1350 := h
                  clear h
                  have h := hv1344
                  refine wl_run 20 2 [0, 1, 2, 7, 52, 61, 62, 63] hA1349 rfl (L' := [(0, .int .i64 p0), (1, .int .i64 p1), (2, .int .i64 p2), (7, .int .i64 y723.1), (52, .bool false), (61, .bool true), (62, .int .i64 p2), (63, .int .i64 y723.1)]) (vs := []) (obl := []) (by kernel_rfl) trivial fun a1351 hA1352 => ?_
                  obtain ⟨y1353, hy1353, h⟩ := bindS h
                  refine wl_call 22 rfl (d := some 64) (g := 12) (args := #[.int .i64 p2, .int .i64 y723.1]) hA1352 (by kernel_rfl) Try.call12 (mode_Covers_ok n _ _ y1353 w1317 hy1353) ?_
                  rintro e w1354 ⟨rfl, ex1355⟩
                  refine ⟨_, rfl, fun a1356 hA1357 => ?_⟩
                  refine wl_run 23 2 [0, 1, 2, 7, 52, 66] hA1357 rfl (L' := [(0, .int .i64 p0), (1, .int .i64 p1), (2, .int .i64 p2), (7, .int .i64 y723.1), (52, .bool false), (66, .bool (!y1353))]) (vs := []) (obl := []) (by kernel_rfl) trivial fun a1358 hA1359 => ?_
                  refine wl_end ?_
                  obtain rfl := someI h
                  exact JK1324 _ a1358 w1354 ex1355 (Has.keep hA1359 [0, 1, 2, 7, 52, 66] rfl) hk1350
              obtain ⟨p1321, hv1361, h⟩ := bindS h
              cases hb1360 : y1298
              · have hA1362 := Has.to (L' := [(0, .int .i64 p0), (1, .int .i64 p1), (2, .int .i64 p2), (7, .int .i64 y723.1), (52, .bool false), (56, .bool false)]) hA1304 (by rw [hb1360])
                replace hv1361 := cfalse hb1360 hv1361
                have hk1363 := h
                clear h
                have h := hv1361
                refine wl_run 15 4 [0, 1, 2, 7, 52, 60] hA1362 rfl (L' := [(0, .int .i64 p0), (1, .int .i64 p1), (2, .int .i64 p2), (7, .int .i64 y723.1), (52, .bool false), (60, .bool false)]) (vs := []) (obl := []) (by kernel_rfl) trivial fun a1364 hA1365 => ?_
                refine wl_end ?_
                obtain rfl := someI h
                exact JK1305 _ a1364 w1299 (Ext.refl _) (Has.keep hA1365 [0, 1, 2, 7, 52, 60] rfl) hk1363
              · have hA1366 := Has.to (L' := [(0, .int .i64 p0), (1, .int .i64 p1), (2, .int .i64 p2), (7, .int .i64 y723.1), (52, .bool false), (56, .bool true)]) hA1304 (by rw [hb1360])
                replace hv1361 := ctrue hb1360 hv1361
                have hk1367 := h
                clear h
                have h := hv1361
                refine wl_run 15 2 [0, 1, 2, 7, 52, 56, 57, 58] hA1366 rfl (L' := [(0, .int .i64 p0), (1, .int .i64 p1), (2, .int .i64 p2), (7, .int .i64 y723.1), (52, .bool false), (56, .bool true), (57, .int .i64 p2), (58, .int .i64 p1)]) (vs := []) (obl := []) (by kernel_rfl) trivial fun a1368 hA1369 => ?_
                obtain ⟨y1370, hy1370, h⟩ := bindS h
                refine wl_call 17 rfl (d := some 59) (g := 12) (args := #[.int .i64 p2, .int .i64 p1]) hA1369 (by kernel_rfl) Try.call12 (mode_Covers_ok n _ _ y1370 w1299 hy1370) ?_
                rintro e w1371 ⟨rfl, ex1372⟩
                refine ⟨_, rfl, fun a1373 hA1374 => ?_⟩
                refine wl_run 18 1 [0, 1, 2, 7, 52, 60] hA1374 rfl (L' := [(0, .int .i64 p0), (1, .int .i64 p1), (2, .int .i64 p2), (7, .int .i64 y723.1), (52, .bool false), (60, .bool y1370)]) (vs := []) (obl := []) (by kernel_rfl) trivial fun a1375 hA1376 => ?_
                refine wl_end ?_
                obtain rfl := someI h
                exact JK1305 _ a1375 w1371 ex1372 (Has.keep hA1376 [0, 1, 2, 7, 52, 60] rfl) hk1367
            · have hA1377 := Has.to (L' := [(0, .int .i64 p0), (1, .int .i64 p1), (2, .int .i64 p2), (7, .int .i64 y723.1), (52, .bool true)]) hA794 (by rw [hb1292])
              replace hv1293 := ctrue hb1292 hv1293
              have hk1378 := h
              clear h
              have h := hv1293
              refine wl_run 11 15 [0, 1, 2, 7, 67] hA1377 rfl (L' := [(0, .int .i64 p0), (1, .int .i64 p1), (2, .int .i64 p2), (7, .int .i64 y723.1), (67, .bool true)]) (vs := []) (obl := []) (by kernel_rfl) trivial fun a1379 hA1380 => ?_
              refine wl_end ?_
              obtain rfl := someI h
              exact JK795 _ a1379 w788 (Ext.refl _) (Has.keep hA1380 [0, 1, 2, 7, 67] rfl) hk1378
          obtain ⟨p792, hv1382, h⟩ := bindS h
          cases hb1381 : (!y769)
          · have hA1383 := Has.to (L' := [(0, .int .i64 p0), (1, .int .i64 p1), (2, .int .i64 p2), (7, .int .i64 y723.1), (46, .bool false)]) hA775 (by rw [hb1381])
            replace hv1382 := cfalse hb1381 hv1382
            have hk1384 := h
            clear h
            have h := hv1382
            refine wl_run 5 2 [0, 1, 2, 7, 46, 47, 48] hA1383 rfl (L' := [(0, .int .i64 p0), (1, .int .i64 p1), (2, .int .i64 p2), (7, .int .i64 y723.1), (46, .bool false), (47, .int .i64 y723.1), (48, .int .i64 p1)]) (vs := []) (obl := []) (by kernel_rfl) trivial fun a1385 hA1386 => ?_
            obtain ⟨y1387, hy1387, h⟩ := bindS h
            refine wl_call 7 rfl (d := some 49) (g := 12) (args := #[.int .i64 y723.1, .int .i64 p1]) hA1386 (by kernel_rfl) Try.call12 (mode_Covers_ok n _ _ y1387 w770 hy1387) ?_
            rintro e w1388 ⟨rfl, ex1389⟩
            refine ⟨_, rfl, fun a1390 hA1391 => ?_⟩
            refine wl_run 8 2 [0, 1, 2, 7, 51] hA1391 rfl (L' := [(0, .int .i64 p0), (1, .int .i64 p1), (2, .int .i64 p2), (7, .int .i64 y723.1), (51, .bool (!y1387))]) (vs := []) (obl := []) (by kernel_rfl) trivial fun a1392 hA1393 => ?_
            refine wl_end ?_
            obtain rfl := someI h
            exact JK776 _ a1392 w1388 ex1389 (Has.keep hA1393 [0, 1, 2, 7, 51] rfl) hk1384
          · have hA1394 := Has.to (L' := [(0, .int .i64 p0), (1, .int .i64 p1), (2, .int .i64 p2), (7, .int .i64 y723.1), (46, .bool true)]) hA775 (by rw [hb1381])
            replace hv1382 := ctrue hb1381 hv1382
            have hk1395 := h
            clear h
            have h := hv1382
            refine wl_run 5 5 [0, 1, 2, 7, 51] hA1394 rfl (L' := [(0, .int .i64 p0), (1, .int .i64 p1), (2, .int .i64 p2), (7, .int .i64 y723.1), (51, .bool true)]) (vs := []) (obl := []) (by kernel_rfl) trivial fun a1396 hA1397 => ?_
            refine wl_end ?_
            obtain rfl := someI h
            exact JK776 _ a1396 w770 (Ext.refl _) (Has.keep hA1397 [0, 1, 2, 7, 51] rfl) hk1395
    cases hb1398 : (y723.2 != y733.2)
    · have hA1399 := Has.to (L' := [(0, .int .i64 p0), (1, .int .i64 p1), (2, .int .i64 p2), (7, .int .i64 y723.1), (8, .int .i64 y723.2), (9, .int .i64 y733.1), (33, .bool false)]) hA743 (by rw [hb1398])
      refine wl_run 4 4 [0, 1, 2, 7, 8, 37] hA1399 rfl (L' := [(0, .int .i64 p0), (1, .int .i64 p1), (2, .int .i64 p2), (7, .int .i64 y723.1), (8, .int .i64 y723.2), (37, .bool (y723.1 != y733.1))]) (vs := []) (obl := []) (by kernel_rfl) trivial fun a1401 hA1402 => ?_
      refine wl_end ?_
      exact JK744 a1401 (Has.to (Has.keep hA1402 [0, 1, 2, 7, 8, 37] rfl) (by rw [hb1398]; rfl))
    · have hA1403 := Has.to (L' := [(0, .int .i64 p0), (1, .int .i64 p1), (2, .int .i64 p2), (7, .int .i64 y723.1), (8, .int .i64 y723.2), (9, .int .i64 y733.1), (33, .bool true)]) hA743 (by rw [hb1398])
      refine wl_run 4 4 [0, 1, 2, 7, 8, 37] hA1403 rfl (L' := [(0, .int .i64 p0), (1, .int .i64 p1), (2, .int .i64 p2), (7, .int .i64 y723.1), (8, .int .i64 y723.2), (37, .bool true)]) (vs := []) (obl := []) (by kernel_rfl) trivial fun a1405 hA1406 => ?_
      refine wl_end ?_
      exact JK744 a1405 (Has.to (Has.keep hA1406 [0, 1, 2, 7, 8, 37] rfl) (by rw [hb1398]; rfl))

end Go.Proofs.Ytghinjlfaicpjaa
