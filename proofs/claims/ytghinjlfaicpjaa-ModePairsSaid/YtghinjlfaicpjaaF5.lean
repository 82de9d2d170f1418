/- Functions of the program: plain twins and walks, printed by program. -/
import Derived.Test.YtghinjlfaicpjaaTypes
import Derived.Test.YtghinjlfaicpjaaF0
import Derived.Test.YtghinjlfaicpjaaF1
import Derived.Test.YtghinjlfaicpjaaF2
import Derived.Test.YtghinjlfaicpjaaF3
import Derived.Test.YtghinjlfaicpjaaF4
namespace Go.Proofs.Ytghinjlfaicpjaa
open Go.Bur Go.RowKit
set_option linter.unusedVariables false
set_option linter.unusedSimpArgs false
set_option maxRecDepth 100000
/-! bursary mode.Parse -/
def mode_Parse (n : Nat) (p0 : ByteArray) : Option (Int × Int) :=
  (mode_names n).bind fun y37 =>
  (slices_Index_string n y37 p0).bind fun y47 =>
  cond (decide (y47 < 0))
    (some (0, 2))
    (some (y47, 0))
noncomputable def mode_Parse_c0 : Code := bodyOf Try.f23
noncomputable def mode_Parse_c1 : Code := seqL mode_Parse_c0
noncomputable def mode_Parse_c2 : Code := seqR mode_Parse_c0
noncomputable def mode_Parse_c1o : Array Oper := regO mode_Parse_c1
noncomputable def mode_Parse_c3 : Code := seqL mode_Parse_c2
noncomputable def mode_Parse_c4 : Code := seqR mode_Parse_c2
noncomputable def mode_Parse_c3o : Array Oper := regO mode_Parse_c3
noncomputable def mode_Parse_c5 : Code := seqL mode_Parse_c4
noncomputable def mode_Parse_c6 : Code := seqR mode_Parse_c4
noncomputable def mode_Parse_c7 : Code := seqL mode_Parse_c5
noncomputable def mode_Parse_c8 : Code := seqR mode_Parse_c5
noncomputable def mode_Parse_c7o : Array Oper := regO mode_Parse_c7
noncomputable def mode_Parse_c9 : Code := condT mode_Parse_c8
noncomputable def mode_Parse_c10 : Code := condE mode_Parse_c8
noncomputable def mode_Parse_c11 : Code := seqL mode_Parse_c9
noncomputable def mode_Parse_c12 : Code := seqR mode_Parse_c9
noncomputable def mode_Parse_c11o : Array Oper := regO mode_Parse_c11
noncomputable def mode_Parse_c13 : Code := seqL mode_Parse_c6
noncomputable def mode_Parse_c14 : Code := seqR mode_Parse_c6
noncomputable def mode_Parse_c13o : Array Oper := regO mode_Parse_c13
theorem mode_Parse_ok (n : Nat) (p0 : ByteArray) (r : (Int × Int)) (w : World)  (h : mode_Parse n p0 = some r) :
    Calls Try.prog 23 #[.string p0] w fun e w' => e = .returned (.tuple #[.int .i64 r.1, .int .i64 r.2]) ∧ Ext w w' := by
  unfold mode_Parse at h
  refine enter 11 Try.func23 rfl (by kernel_rfl) (by simp) fun a hA => ?_
  change mode_Parse_c0.wp _ _ _ _
  refine c_seq mode_Parse_c1 mode_Parse_c2 (by kernel_rfl) fun K33 hK33 => ?_
  refine c_region mode_Parse_c1o 2 (by kernel_rfl) (by kernel_rfl) ?_
  refine wl_run 0 2 [0] hA rfl (L' := [(0, .string p0)]) (vs := []) (obl := []) (by kernel_rfl) trivial fun a34 hA35 => ?_
  refine wl_end ?_
  refine hK33 _ _ ?_
  refine c_seq mode_Parse_c3 mode_Parse_c4 (by kernel_rfl) fun K36 hK36 => ?_
  refine c_region mode_Parse_c3o 4 (by kernel_rfl) (by kernel_rfl) ?_
  obtain ⟨y37, hy37, h⟩ := bindS h
  refine wl_call 0 rfl (d := some 5) (g := 30) (args := #[]) hA35 (by kernel_rfl) Try.call30 (mode_names_ok n y37 w hy37) ?_
  rintro e w38 ⟨a42, c43, rfl, hr44, ex39⟩
  refine ⟨_, rfl, fun a40 hA41 => ?_⟩
  refine wl_run 1 1 [5, 6] hA41 rfl (L' := [(5, .slice a42 y37.length c43), (6, .string p0)]) (vs := []) (obl := []) (by kernel_rfl) trivial fun a45 hA46 => ?_
  obtain ⟨y47, hy47, h⟩ := bindS h
  refine wl_call 2 rfl (d := some 7) (g := 31) (args := #[.slice a42 y37.length c43, .string p0]) hA46 (by kernel_rfl) Try.call31 (slices_Index_string_ok n _ _ y47 w38 hr44 hy47) ?_
  rintro e w48 ⟨rfl, ex49⟩
  refine ⟨_, rfl, fun a50 hA51 => ?_⟩
  refine wl_run 3 1 [4] hA51 rfl (L' := [(4, .int .i64 y47)]) (vs := []) (obl := []) (by kernel_rfl) trivial fun a52 hA53 => ?_
  refine wl_end ?_
  refine hK36 _ _ ?_
  refine c_seq mode_Parse_c5 mode_Parse_c6 (by kernel_rfl) fun K54 hK54 => ?_
  refine c_seq mode_Parse_c7 mode_Parse_c8 (by kernel_rfl) fun K55 hK55 => ?_
  refine c_region mode_Parse_c7o 2 (by kernel_rfl) (by kernel_rfl) ?_
  refine wl_run 0 2 [4, 9] hA53 rfl (L' := [(4, .int .i64 y47), (9, .bool (decide (y47 < 0)))]) (vs := []) (obl := []) (by kernel_rfl) trivial fun a56 hA57 => ?_
  refine wl_end ?_
  refine hK55 _ _ ?_
  refine c_cond mode_Parse_c9 mode_Parse_c10 (condX mode_Parse_c8) (decide (y47 < 0)) hA57 (by kernel_rfl) (by kernel_rfl) (by kernel_rfl) (fun hb58 => ?_) (fun hb58 => ?_)
  · replace h := ctrue hb58 h
    refine c_seq mode_Parse_c11 mode_Parse_c12 (by kernel_rfl) fun K59 hK59 => ?_
    refine c_region mode_Parse_c11o 2 (by kernel_rfl) (by kernel_rfl) ?_
    refine wl_run 0 2 [2, 3] hA57 rfl (L' := [(2, .int .i64 0), (3, .int .i64 2)]) (vs := []) (obl := []) (by kernel_rfl) trivial fun a60 hA61 => ?_
    refine wl_end ?_
    refine hK59 _ _ ?_
    refine c_ret (by kernel_rfl) ?_
    obtain rfl := someI h
    try simp only [Exit.then, Exit.inBlock]
    refine ret2 hA61 2 3 _ _ (by kernel_rfl) rfl rfl rfl rfl ?_
    exact ⟨rfl, (Ext.trans ex39 ex49)⟩
  · replace h := cfalse hb58 h
    refine c_skip (by kernel_rfl) ?_
    refine hK54 _ _ ?_
    refine c_seq mode_Parse_c13 mode_Parse_c14 (by kernel_rfl) fun K62 hK62 => ?_
    refine c_region mode_Parse_c13o 3 (by kernel_rfl) (by kernel_rfl) ?_
    refine wl_run 0 3 [2, 3] hA57 rfl (L' := [(2, .int .i64 y47), (3, .int .i64 0)]) (vs := []) (obl := []) (by kernel_rfl) trivial fun a63 hA64 => ?_
    refine wl_end ?_
    refine hK62 _ _ ?_
    refine c_ret (by kernel_rfl) ?_
    obtain rfl := someI h
    try simp only [Exit.then, Exit.inBlock]
    refine ret2 hA64 2 3 _ _ (by kernel_rfl) rfl rfl rfl rfl ?_
    exact ⟨rfl, (Ext.trans ex39 ex49)⟩

/-! bursary bursarylaw07.ModeTells -/
def law07_ModeTells_l2 (n : Nat) (p1 : ByteArray) (y550 : (Int × Int)) : Nat → Int → Option Bool
  | 0, _ => none
  | m613 + 1, v609 =>
    cond (decide (v609 ≤ 6))
      ((ref07_Name n v609).bind fun y624 =>
      cond (p1.toList == y624.toList)
        (some ((y550.2 == 0) && (y550.1 == v609)))
        (law07_ModeTells_l2 n p1 y550 m613 (IntKind.wrap .i64 (v609 + 1))))
      (some ((y550.2 == 2) && (y550.1 == 0)))
def law07_ModeTells_j1 (n : Nat) (p1 : ByteArray) (p542 : Bool) : Option Bool :=
  cond p542
    (some false)
    ((mode_Parse n p1).bind fun y550 =>
    law07_ModeTells_l2 n p1 y550 n 0)
def law07_ModeTells_j2 (n : Nat) (p0 : Int) (p1 : ByteArray) (p516 : Bool) : Option Bool :=
  (cond p516
  (some true)
  ((mode_Text n p0).bind fun y686 =>
  (ref07_Name n p0).bind fun y693 =>
  some (!(y686.toList == y693.toList)))).bind fun p542 =>
  law07_ModeTells_j1 n p1 p542
def law07_ModeTells_j3 (n : Nat) (p0 : Int) (p1 : ByteArray) (p490 : Bool) : Option Bool :=
  (cond p490
  (some true)
  ((mode_OfKeys n p0).bind fun y710 =>
  (ref07_Keys n p0).bind fun y717 =>
  some (!(y710 == y717)))).bind fun p516 =>
  law07_ModeTells_j2 n p0 p1 p516
def law07_ModeTells (n : Nat) (p0 : Int) (p1 : ByteArray) : Option Bool :=
  (law07_wakes n).bind fun y396 =>
  cond (!y396)
    (some false)
    (cond (decide ((p1.size : Int) > 100))
      (some true)
      ((mode_Check n p0).bind fun y418 =>
      (ref07_Is n p0).bind fun y429 =>
      (cond ((!((y418 == 0) == y429)) || ((y418 != 0) && (y418 != 170)))
  (some true)
  ((mode_OfTables n p0).bind fun y734 =>
  (ref07_Tables n p0).bind fun y741 =>
  some (!(y734 == y741)))).bind fun p490 =>
      law07_ModeTells_j3 n p0 p1 p490))
noncomputable def law07_ModeTells_c0 : Code := bodyOf Try.f6
noncomputable def law07_ModeTells_c1 : Code := seqL law07_ModeTells_c0
noncomputable def law07_ModeTells_c2 : Code := seqR law07_ModeTells_c0
noncomputable def law07_ModeTells_c1o : Array Oper := regO law07_ModeTells_c1
noncomputable def law07_ModeTells_c3 : Code := seqL law07_ModeTells_c2
noncomputable def law07_ModeTells_c4 : Code := seqR law07_ModeTells_c2
noncomputable def law07_ModeTells_c5 : Code := seqL law07_ModeTells_c3
noncomputable def law07_ModeTells_c6 : Code := seqR law07_ModeTells_c3
noncomputable def law07_ModeTells_c5o : Array Oper := regO law07_ModeTells_c5
noncomputable def law07_ModeTells_c7 : Code := condT law07_ModeTells_c6
noncomputable def law07_ModeTells_c8 : Code := condE law07_ModeTells_c6
noncomputable def law07_ModeTells_c9 : Code := seqL law07_ModeTells_c7
noncomputable def law07_ModeTells_c10 : Code := seqR law07_ModeTells_c7
noncomputable def law07_ModeTells_c9o : Array Oper := regO law07_ModeTells_c9
noncomputable def law07_ModeTells_c11 : Code := seqL law07_ModeTells_c4
noncomputable def law07_ModeTells_c12 : Code := seqR law07_ModeTells_c4
noncomputable def law07_ModeTells_c13 : Code := seqL law07_ModeTells_c11
noncomputable def law07_ModeTells_c14 : Code := seqR law07_ModeTells_c11
noncomputable def law07_ModeTells_c13o : Array Oper := regO law07_ModeTells_c13
noncomputable def law07_ModeTells_c15 : Code := condT law07_ModeTells_c14
noncomputable def law07_ModeTells_c16 : Code := condE law07_ModeTells_c14
noncomputable def law07_ModeTells_c17 : Code := seqL law07_ModeTells_c15
noncomputable def law07_ModeTells_c18 : Code := seqR law07_ModeTells_c15
noncomputable def law07_ModeTells_c17o : Array Oper := regO law07_ModeTells_c17
noncomputable def law07_ModeTells_c19 : Code := seqL law07_ModeTells_c12
noncomputable def law07_ModeTells_c20 : Code := seqR law07_ModeTells_c12
noncomputable def law07_ModeTells_c19o : Array Oper := regO law07_ModeTells_c19
noncomputable def law07_ModeTells_c21 : Code := seqL law07_ModeTells_c20
noncomputable def law07_ModeTells_c22 : Code := seqR law07_ModeTells_c20
noncomputable def law07_ModeTells_c23 : Code := seqL law07_ModeTells_c21
noncomputable def law07_ModeTells_c24 : Code := seqR law07_ModeTells_c21
noncomputable def law07_ModeTells_c23o : Array Oper := regO law07_ModeTells_c23
noncomputable def law07_ModeTells_c25 : Code := condT law07_ModeTells_c24
noncomputable def law07_ModeTells_c26 : Code := condE law07_ModeTells_c24
noncomputable def law07_ModeTells_c27 : Code := seqL law07_ModeTells_c25
noncomputable def law07_ModeTells_c28 : Code := seqR law07_ModeTells_c25
noncomputable def law07_ModeTells_c27o : Array Oper := regO law07_ModeTells_c27
noncomputable def law07_ModeTells_c29 : Code := seqL law07_ModeTells_c22
noncomputable def law07_ModeTells_c30 : Code := seqR law07_ModeTells_c22
noncomputable def law07_ModeTells_c29o : Array Oper := regO law07_ModeTells_c29
noncomputable def law07_ModeTells_c31 : Code := seqL law07_ModeTells_c30
noncomputable def law07_ModeTells_c32 : Code := seqR law07_ModeTells_c30
noncomputable def law07_ModeTells_c33 : Code := seqL law07_ModeTells_c31
noncomputable def law07_ModeTells_c34 : Code := seqR law07_ModeTells_c31
noncomputable def law07_ModeTells_c33o : Array Oper := regO law07_ModeTells_c33
noncomputable def law07_ModeTells_c35 : Code := blkB law07_ModeTells_c34
noncomputable def law07_ModeTells_c36 : Code := loopB law07_ModeTells_c35
noncomputable def law07_ModeTells_c37 : Code := seqL law07_ModeTells_c36
noncomputable def law07_ModeTells_c38 : Code := seqR law07_ModeTells_c36
noncomputable def law07_ModeTells_c39 : Code := seqL law07_ModeTells_c37
noncomputable def law07_ModeTells_c40 : Code := seqR law07_ModeTells_c37
noncomputable def law07_ModeTells_c39o : Array Oper := regO law07_ModeTells_c39
noncomputable def law07_ModeTells_c41 : Code := condT law07_ModeTells_c40
noncomputable def law07_ModeTells_c42 : Code := condE law07_ModeTells_c40
noncomputable def law07_ModeTells_c43 : Code := seqL law07_ModeTells_c38
noncomputable def law07_ModeTells_c44 : Code := seqR law07_ModeTells_c38
noncomputable def law07_ModeTells_c45 : Code := blkB law07_ModeTells_c43
noncomputable def law07_ModeTells_c46 : Code := seqL law07_ModeTells_c45
noncomputable def law07_ModeTells_c47 : Code := seqR law07_ModeTells_c45
noncomputable def law07_ModeTells_c46o : Array Oper := regO law07_ModeTells_c46
noncomputable def law07_ModeTells_c48 : Code := condT law07_ModeTells_c47
noncomputable def law07_ModeTells_c49 : Code := condE law07_ModeTells_c47
noncomputable def law07_ModeTells_c50 : Code := seqL law07_ModeTells_c48
noncomputable def law07_ModeTells_c51 : Code := seqR law07_ModeTells_c48
noncomputable def law07_ModeTells_c50o : Array Oper := regO law07_ModeTells_c50
noncomputable def law07_ModeTells_c44o : Array Oper := regO law07_ModeTells_c44
noncomputable def law07_ModeTells_c52 : Code := seqL law07_ModeTells_c32
noncomputable def law07_ModeTells_c53 : Code := seqR law07_ModeTells_c32
noncomputable def law07_ModeTells_c52o : Array Oper := regO law07_ModeTells_c52
theorem law07_ModeTells_ok (n : Nat) (p0 : Int) (p1 : ByteArray) (r : Bool) (w : World)  (h : law07_ModeTells n p0 p1 = some r) :
    Calls Try.prog 6 #[.int .i64 p0, .string p1] w fun e w' => e = .returned (.bool r) ∧ Ext w w' := by
  unfold law07_ModeTells at h
  refine enter 75 Try.func6 rfl (by kernel_rfl) (by simp) fun a hA => ?_
  change law07_ModeTells_c0.wp _ _ _ _
  refine c_seq law07_ModeTells_c1 law07_ModeTells_c2 (by kernel_rfl) fun K391 hK391 => ?_
  refine c_region law07_ModeTells_c1o 1 (by kernel_rfl) (by kernel_rfl) ?_
  refine wl_run 0 1 [0, 1] hA rfl (L' := [(0, .int .i64 p0), (1, .string p1)]) (vs := []) (obl := []) (by kernel_rfl) trivial fun a392 hA393 => ?_
  refine wl_end ?_
  refine hK391 _ _ ?_
  refine c_seq law07_ModeTells_c3 law07_ModeTells_c4 (by kernel_rfl) fun K394 hK394 => ?_
  refine c_seq law07_ModeTells_c5 law07_ModeTells_c6 (by kernel_rfl) fun K395 hK395 => ?_
  refine c_region law07_ModeTells_c5o 2 (by kernel_rfl) (by kernel_rfl) ?_
  obtain ⟨y396, hy396, h⟩ := bindS h
  refine wl_call 0 rfl (d := some 8) (g := 8) (args := #[]) hA393 (by kernel_rfl) Try.call8 (law07_wakes_ok n y396 w hy396) ?_
  rintro e w397 ⟨rfl, ex398⟩
  refine ⟨_, rfl, fun a399 hA400 => ?_⟩
  refine wl_run 1 1 [0, 1, 9] hA400 rfl (L' := [(0, .int .i64 p0), (1, .string p1), (9, .bool (!y396))]) (vs := []) (obl := []) (by kernel_rfl) trivial fun a401 hA402 => ?_
  refine wl_end ?_
  refine hK395 _ _ ?_
  refine c_cond law07_ModeTells_c7 law07_ModeTells_c8 (condX law07_ModeTells_c6) (!y396) hA402 (by kernel_rfl) (by kernel_rfl) (by kernel_rfl) (fun hb403 => ?_) (fun hb403 => ?_)
  · replace h := ctrue hb403 h
    refine c_seq law07_ModeTells_c9 law07_ModeTells_c10 (by kernel_rfl) fun K404 hK404 => ?_
    refine c_region law07_ModeTells_c9o 1 (by kernel_rfl) (by kernel_rfl) ?_
    refine wl_run 0 1 [4] hA402 rfl (L' := [(4, .bool false)]) (vs := []) (obl := []) (by kernel_rfl) trivial fun a405 hA406 => ?_
    refine wl_end ?_
    refine hK404 _ _ ?_
    refine c_ret (by kernel_rfl) ?_
    obtain rfl := someI h
    try simp only [Exit.then, Exit.inBlock]
    refine ret1 hA406 4 _ (by kernel_rfl) rfl rfl ?_
    exact ⟨rfl, ex398⟩
  · replace h := cfalse hb403 h
    refine c_skip (by kernel_rfl) ?_
    refine hK394 _ _ ?_
    refine c_seq law07_ModeTells_c11 law07_ModeTells_c12 (by kernel_rfl) fun K407 hK407 => ?_
    refine c_seq law07_ModeTells_c13 law07_ModeTells_c14 (by kernel_rfl) fun K408 hK408 => ?_
    refine c_region law07_ModeTells_c13o 3 (by kernel_rfl) (by kernel_rfl) ?_
    refine wl_run 0 3 [0, 1, 12] hA402 rfl (L' := [(0, .int .i64 p0), (1, .string p1), (12, .bool (decide ((p1.size : Int) > 100)))]) (vs := []) (obl := []) (by kernel_rfl) trivial fun a409 hA410 => ?_
    refine wl_end ?_
    refine hK408 _ _ ?_
    refine c_cond law07_ModeTells_c15 law07_ModeTells_c16 (condX law07_ModeTells_c14) (decide ((p1.size : Int) > 100)) hA410 (by kernel_rfl) (by kernel_rfl) (by kernel_rfl) (fun hb411 => ?_) (fun hb411 => ?_)
    · replace h := ctrue hb411 h
      refine c_seq law07_ModeTells_c17 law07_ModeTells_c18 (by kernel_rfl) fun K412 hK412 => ?_
      refine c_region law07_ModeTells_c17o 1 (by kernel_rfl) (by kernel_rfl) ?_
      refine wl_run 0 1 [4] hA410 rfl (L' := [(4, .bool true)]) (vs := []) (obl := []) (by kernel_rfl) trivial fun a413 hA414 => ?_
      refine wl_end ?_
      refine hK412 _ _ ?_
      refine c_ret (by kernel_rfl) ?_
      obtain rfl := someI h
      try simp only [Exit.then, Exit.inBlock]
      refine ret1 hA414 4 _ (by kernel_rfl) rfl rfl ?_
      exact ⟨rfl, ex398⟩
    · replace h := cfalse hb411 h
      refine c_skip (by kernel_rfl) ?_
      refine hK407 _ _ ?_
      refine c_seq law07_ModeTells_c19 law07_ModeTells_c20 (by kernel_rfl) fun K415 hK415 => ?_
      refine c_region law07_ModeTells_c19o 3 (by kernel_rfl) (by kernel_rfl) ?_
      refine wl_run 0 1 [0, 1, 13] hA410 rfl (L' := [(0, .int .i64 p0), (1, .string p1), (13, .int .i64 p0)]) (vs := []) (obl := []) (by kernel_rfl) trivial fun a416 hA417 => ?_
      obtain ⟨y418, hy418, h⟩ := bindS h
      refine wl_call 1 rfl (d := some 14) (g := 18) (args := #[.int .i64 p0]) hA417 (by kernel_rfl) Try.call18 (mode_Check_ok n _ y418 w397 hy418) ?_
      rintro e w419 ⟨rfl, ex420⟩
      refine ⟨_, rfl, fun a421 hA422 => ?_⟩
      refine wl_run 2 1 [0, 1, 5] hA422 rfl (L' := [(0, .int .i64 p0), (1, .string p1), (5, .int .i64 y418)]) (vs := []) (obl := []) (by kernel_rfl) trivial fun a423 hA424 => ?_
      refine wl_end ?_
      refine hK415 _ _ ?_
      refine c_seq law07_ModeTells_c21 law07_ModeTells_c22 (by kernel_rfl) fun K425 hK425 => ?_
      refine c_seq law07_ModeTells_c23 law07_ModeTells_c24 (by kernel_rfl) fun K426 hK426 => ?_
      refine c_region law07_ModeTells_c23o 34 (by kernel_rfl) (by kernel_rfl) ?_
      refine wl_run 0 3 [0, 1, 5, 16, 17] hA424 rfl (L' := [(0, .int .i64 p0), (1, .string p1), (5, .int .i64 y418), (16, .bool (y418 == 0)), (17, .int .i64 p0)]) (vs := []) (obl := []) (by kernel_rfl) trivial fun a427 hA428 => ?_
      obtain ⟨y429, hy429, h⟩ := bindS h
      refine wl_call 3 rfl (d := some 18) (g := 14) (args := #[.int .i64 p0]) hA428 (by kernel_rfl) Try.call14 (ref07_Is_ok n _ y429 w419 hy429) ?_
      rintro e w430 ⟨rfl, ex431⟩
      refine ⟨_, rfl, fun a432 hA433 => ?_⟩
      refine wl_run 4 2 [0, 1, 5, 20] hA433 rfl (L' := [(0, .int .i64 p0), (1, .string p1), (5, .int .i64 y418), (20, .bool (!((y418 == 0) == y429)))]) (vs := []) (obl := []) (by kernel_rfl) trivial fun a434 hA435 => ?_
      refine wl_cut 13 rfl rfl fun K436 hK436 => ?_
      have JK436 : ∀ (a462 : Act), Has a462 75 [(0, .int .i64 p0), (1, .string p1), (27, .bool ((!((y418 == 0) == y429)) || ((y418 != 0) && (y418 != 170))))] → K436 a462 w430 := by
        intro a462 hA463
        refine hK436 _ _ ?_
        refine wl_run 13 1 [0, 1, 28] hA463 rfl (L' := [(0, .int .i64 p0), (1, .string p1), (28, .bool ((!((y418 == 0) == y429)) || ((y418 != 0) && (y418 != 170))))]) (vs := []) (obl := []) (by kernel_rfl) trivial fun a465 hA466 => ?_
        refine wl_cut 20 rfl rfl fun K467 hK467 => ?_
        have JK467 : ∀ (p490 : Bool) (a487 : Act) (w486 : World), Ext w430 w486 → Has a487 75 [(0, .int .i64 p0), (1, .string p1), (34, .bool p490)] → law07_ModeTells_j3 n p0 p1 p490 = some r → K467 a487 w486 := by
          intro p490 a487 w486 ex489 hA488 h
          unfold law07_ModeTells_j3 at h
          refine hK467 _ _ ?_
          refine wl_run 20 1 [0, 1, 35] hA488 rfl (L' := [(0, .int .i64 p0), (1, .string p1), (35, .bool p490)]) (vs := []) (obl := []) (by kernel_rfl) trivial fun a491 hA492 => ?_
          refine wl_cut 27 rfl rfl fun K493 hK493 => ?_
          have JK493 : ∀ (p516 : Bool) (a513 : Act) (w512 : World), Ext w486 w512 → Has a513 75 [(0, .int .i64 p0), (1, .string p1), (41, .bool p516)] → law07_ModeTells_j2 n p0 p1 p516 = some r → K493 a513 w512 := by
            intro p516 a513 w512 ex515 hA514 h
            unfold law07_ModeTells_j2 at h
            refine hK493 _ _ ?_
            refine wl_run 27 1 [0, 1, 42] hA514 rfl (L' := [(0, .int .i64 p0), (1, .string p1), (42, .bool p516)]) (vs := []) (obl := []) (by kernel_rfl) trivial fun a517 hA518 => ?_
            refine wl_cut 34 rfl rfl fun K519 hK519 => ?_
            have JK519 : ∀ (p542 : Bool) (a539 : Act) (w538 : World), Ext w512 w538 → Has a539 75 [(1, .string p1), (48, .bool p542)] → law07_ModeTells_j1 n p1 p542 = some r → K519 a539 w538 := by
              intro p542 a539 w538 ex541 hA540 h
              unfold law07_ModeTells_j1 at h
              refine hK519 _ _ ?_
              refine wl_end ?_
              refine hK426 _ _ ?_
              refine c_cond law07_ModeTells_c25 law07_ModeTells_c26 (condX law07_ModeTells_c24) p542 hA540 (by kernel_rfl) (by kernel_rfl) (by kernel_rfl) (fun hb543 => ?_) (fun hb543 => ?_)
              · replace h := ctrue hb543 h
                refine c_seq law07_ModeTells_c27 law07_ModeTells_c28 (by kernel_rfl) fun K544 hK544 => ?_
                refine c_region law07_ModeTells_c27o 1 (by kernel_rfl) (by kernel_rfl) ?_
                refine wl_run 0 1 [4] hA540 rfl (L' := [(4, .bool false)]) (vs := []) (obl := []) (by kernel_rfl) trivial fun a545 hA546 => ?_
                refine wl_end ?_
                refine hK544 _ _ ?_
                refine c_ret (by kernel_rfl) ?_
                obtain rfl := someI h
                try simp only [Exit.then, Exit.inBlock]
                refine ret1 hA546 4 _ (by kernel_rfl) rfl rfl ?_
                exact ⟨rfl, (Ext.trans (Ext.trans (Ext.trans (Ext.trans (Ext.trans ex398 ex420) ex431) ex489) ex515) ex541)⟩
              · replace h := cfalse hb543 h
                refine c_skip (by kernel_rfl) ?_
                refine hK425 _ _ ?_
                refine c_seq law07_ModeTells_c29 law07_ModeTells_c30 (by kernel_rfl) fun K547 hK547 => ?_
                refine c_region law07_ModeTells_c29o 7 (by kernel_rfl) (by kernel_rfl) ?_
                refine wl_run 0 1 [1, 50] hA540 rfl (L' := [(1, .string p1), (50, .string p1)]) (vs := []) (obl := []) (by kernel_rfl) trivial fun a548 hA549 => ?_
                obtain ⟨y550, hy550, h⟩ := bindS h
                refine wl_call 1 rfl (d := some 51) (g := 23) (args := #[.string p1]) hA549 (by kernel_rfl) Try.call23 (mode_Parse_ok n _ y550 w538 hy550) ?_
                rintro e w551 ⟨rfl, ex552⟩
                refine ⟨_, rfl, fun a553 hA554 => ?_⟩
                refine wl_run 2 5 [1, 5, 6] hA554 rfl (L' := [(1, .string p1), (5, .int .i64 y550.2), (6, .int .i64 y550.1)]) (vs := []) (obl := []) (by kernel_rfl) trivial fun a555 hA556 => ?_
                refine wl_end ?_
                refine hK547 _ _ ?_
                refine c_seq law07_ModeTells_c31 law07_ModeTells_c32 (by kernel_rfl) fun K557 hK557 => ?_
                refine c_seq law07_ModeTells_c33 law07_ModeTells_c34 (by kernel_rfl) fun K558 hK558 => ?_
                refine c_region law07_ModeTells_c33o 1 (by kernel_rfl) (by kernel_rfl) ?_
                refine wl_run 0 1 [1, 5, 6, 7] hA556 rfl (L' := [(1, .string p1), (5, .int .i64 y550.2), (6, .int .i64 y550.1), (7, .int .i64 0)]) (vs := []) (obl := []) (by kernel_rfl) trivial fun a559 hA560 => ?_
                refine wl_end ?_
                refine hK558 _ _ ?_
                refine c_block 0 law07_ModeTells_c35 (by kernel_rfl) ?_
                refine c_loop law07_ModeTells_c36 (by kernel_rfl) (fun m613 a611 w608 => ∃ (v609 : Int), law07_ModeTells_l2 n p1 y550 m613 v609 = some r ∧ Ext w551 w608 ∧ Has a611 75 [(1, .string p1), (5, .int .i64 y550.2), (6, .int .i64 y550.1), (7, .int .i64 v609)]) n ⟨0, h, (Ext.refl _), (Has.keep hA560 [1, 5, 6, 7] rfl)⟩ ?_
                rintro m613 a611 w608 ⟨v609, h, ex610, hA612⟩ K614 hK614
                cases m613 with
                | zero => exact (noneS h).elim
                | succ m613 =>
                  unfold law07_ModeTells_l2 at h
                  refine c_seq law07_ModeTells_c37 law07_ModeTells_c38 (by kernel_rfl) fun K615 hK615 => ?_
                  refine c_seq law07_ModeTells_c39 law07_ModeTells_c40 (by kernel_rfl) fun K616 hK616 => ?_
                  refine c_region law07_ModeTells_c39o 2 (by kernel_rfl) (by kernel_rfl) ?_
                  refine wl_run 0 2 [1, 5, 6, 7, 55] hA612 rfl (L' := [(1, .string p1), (5, .int .i64 y550.2), (6, .int .i64 y550.1), (7, .int .i64 v609), (55, .bool (decide (v609 ≤ 6)))]) (vs := []) (obl := []) (by kernel_rfl) trivial fun a617 hA618 => ?_
                  refine wl_end ?_
                  refine hK616 _ _ ?_
                  refine c_cond law07_ModeTells_c41 law07_ModeTells_c42 (condX law07_ModeTells_c40) (decide (v609 ≤ 6)) hA618 (by kernel_rfl) (by kernel_rfl) (by kernel_rfl) (fun hb619 => ?_) (fun hb619 => ?_)
                  · replace h := ctrue hb619 h
                    refine c_skip (by kernel_rfl) ?_
                    refine hK615 _ _ ?_
                    refine c_seq law07_ModeTells_c43 law07_ModeTells_c44 (by kernel_rfl) fun K620 hK620 => ?_
                    refine c_block 1 law07_ModeTells_c45 (by kernel_rfl) ?_
                    refine c_seq law07_ModeTells_c46 law07_ModeTells_c47 (by kernel_rfl) fun K621 hK621 => ?_
                    refine c_region law07_ModeTells_c46o 4 (by kernel_rfl) (by kernel_rfl) ?_
                    refine wl_run 0 2 [1, 5, 6, 7, 58, 59] hA618 rfl (L' := [(1, .string p1), (5, .int .i64 y550.2), (6, .int .i64 y550.1), (7, .int .i64 v609), (58, .string p1), (59, .int .i64 v609)]) (vs := []) (obl := []) (by kernel_rfl) trivial fun a622 hA623 => ?_
                    obtain ⟨y624, hy624, h⟩ := bindS h
                    refine wl_call 2 rfl (d := some 60) (g := 22) (args := #[.int .i64 v609]) hA623 (by kernel_rfl) Try.call22 (ref07_Name_ok n _ y624 w608 hy624) ?_
                    rintro e w625 ⟨rfl, ex626⟩
                    refine ⟨_, rfl, fun a627 hA628 => ?_⟩
                    refine wl_run 3 1 [1, 5, 6, 7, 61] hA628 rfl (L' := [(1, .string p1), (5, .int .i64 y550.2), (6, .int .i64 y550.1), (7, .int .i64 v609), (61, .bool (p1.toList == y624.toList))]) (vs := []) (obl := []) (by kernel_rfl) trivial fun a629 hA630 => ?_
                    refine wl_end ?_
                    refine hK621 _ _ ?_
                    refine c_cond law07_ModeTells_c48 law07_ModeTells_c49 (condX law07_ModeTells_c47) (p1.toList == y624.toList) hA630 (by kernel_rfl) (by kernel_rfl) (by kernel_rfl) (fun hb631 => ?_) (fun hb631 => ?_)
                    · replace h := ctrue hb631 h
                      refine c_seq law07_ModeTells_c50 law07_ModeTells_c51 (by kernel_rfl) fun K632 hK632 => ?_
                      refine c_region law07_ModeTells_c50o 8 (by kernel_rfl) (by kernel_rfl) ?_
                      refine wl_run 0 3 [6, 7, 64] hA630 rfl (L' := [(6, .int .i64 y550.1), (7, .int .i64 v609), (64, .bool (y550.2 == 0))]) (vs := []) (obl := []) (by kernel_rfl) trivial fun a633 hA634 => ?_
                      refine wl_cut 7 rfl rfl fun K635 hK635 => ?_
                      have JK635 : ∀ (a641 : Act), Has a641 75 [(68, .bool ((y550.2 == 0) && (y550.1 == v609)))] → K635 a641 w625 := by
                        intro a641 hA642
                        refine hK635 _ _ ?_
                        refine wl_run 7 1 [4] hA642 rfl (L' := [(4, .bool ((y550.2 == 0) && (y550.1 == v609)))]) (vs := []) (obl := []) (by kernel_rfl) trivial fun a644 hA645 => ?_
                        refine wl_end ?_
                        refine hK632 _ _ ?_
                        refine c_ret (by kernel_rfl) ?_
                        obtain rfl := someI h
                        try simp only [Exit.then, Exit.inBlock]
                        refine ret1 hA645 4 _ (by kernel_rfl) rfl rfl ?_
                        exact ⟨rfl, (Ext.trans (Ext.trans (Ext.trans (Ext.trans (Ext.trans (Ext.trans (Ext.trans (Ext.trans ex398 ex420) ex431) ex489) ex515) ex541) ex552) ex610) ex626)⟩
                      cases hb646 : (y550.2 == 0)
                      · have hA647 := Has.to (L' := [(6, .int .i64 y550.1), (7, .int .i64 v609), (64, .bool false)]) hA634 (by rw [hb646])
                        refine wl_run 3 4 [68] hA647 rfl (L' := [(68, .bool false)]) (vs := []) (obl := []) (by kernel_rfl) trivial fun a649 hA650 => ?_
                        refine wl_end ?_
                        exact JK635 a649 (Has.to (Has.keep hA650 [68] rfl) (by rw [hb646]; rfl))
                      · have hA651 := Has.to (L' := [(6, .int .i64 y550.1), (7, .int .i64 v609), (64, .bool true)]) hA634 (by rw [hb646])
                        refine wl_run 3 4 [68] hA651 rfl (L' := [(68, .bool (y550.1 == v609))]) (vs := []) (obl := []) (by kernel_rfl) trivial fun a653 hA654 => ?_
                        refine wl_end ?_
                        exact JK635 a653 (Has.to (Has.keep hA654 [68] rfl) (by rw [hb646]; rfl))
                    · replace h := cfalse hb631 h
                      refine c_skip (by kernel_rfl) ?_
                      refine hK620 _ _ ?_
                      refine c_region law07_ModeTells_c44o 3 (by kernel_rfl) (by kernel_rfl) ?_
                      refine wl_run 0 3 [1, 5, 6, 7] hA630 rfl (L' := [(1, .string p1), (5, .int .i64 y550.2), (6, .int .i64 y550.1), (7, .int .i64 (IntKind.wrap .i64 (v609 + 1)))]) (vs := []) (obl := []) (by kernel_rfl) trivial fun a655 hA656 => ?_
                      refine wl_end ?_
                      exact hK614 m613 _ _ (Nat.lt_succ_self _) ⟨(IntKind.wrap .i64 (v609 + 1)), h, (Ext.trans ex610 ex626), (Has.keep hA656 [1, 5, 6, 7] rfl)⟩
                  · replace h := cfalse hb619 h
                    refine c_exit 0 (by kernel_rfl) ?_
                    refine hK557 _ _ ?_
                    refine c_seq law07_ModeTells_c52 law07_ModeTells_c53 (by kernel_rfl) fun K657 hK657 => ?_
                    refine c_region law07_ModeTells_c52o 7 (by kernel_rfl) (by kernel_rfl) ?_
                    refine wl_run 0 3 [6, 71] hA618 rfl (L' := [(6, .int .i64 y550.1), (71, .bool (y550.2 == 2))]) (vs := []) (obl := []) (by kernel_rfl) trivial fun a658 hA659 => ?_
                    refine wl_cut 6 rfl rfl fun K660 hK660 => ?_
                    have JK660 : ∀ (a666 : Act), Has a666 75 [(74, .bool ((y550.2 == 2) && (y550.1 == 0)))] → K660 a666 w608 := by
                      intro a666 hA667
                      refine hK660 _ _ ?_
                      refine wl_run 6 1 [4] hA667 rfl (L' := [(4, .bool ((y550.2 == 2) && (y550.1 == 0)))]) (vs := []) (obl := []) (by kernel_rfl) trivial fun a669 hA670 => ?_
                      refine wl_end ?_
                      refine hK657 _ _ ?_
                      refine c_ret (by kernel_rfl) ?_
                      obtain rfl := someI h
                      try simp only [Exit.then, Exit.inBlock]
                      refine ret1 hA670 4 _ (by kernel_rfl) rfl rfl ?_
                      exact ⟨rfl, (Ext.trans (Ext.trans (Ext.trans (Ext.trans (Ext.trans (Ext.trans (Ext.trans ex398 ex420) ex431) ex489) ex515) ex541) ex552) ex610)⟩
                    cases hb671 : (y550.2 == 2)
                    · have hA672 := Has.to (L' := [(6, .int .i64 y550.1), (71, .bool false)]) hA659 (by rw [hb671])
                      refine wl_run 3 3 [74] hA672 rfl (L' := [(74, .bool false)]) (vs := []) (obl := []) (by kernel_rfl) trivial fun a674 hA675 => ?_
                      refine wl_end ?_
                      exact JK660 a674 (Has.to (Has.keep hA675 [74] rfl) (by rw [hb671]; rfl))
                    · have hA676 := Has.to (L' := [(6, .int .i64 y550.1), (71, .bool true)]) hA659 (by rw [hb671])
                      refine wl_run 3 3 [74] hA676 rfl (L' := [(74, .bool (y550.1 == 0))]) (vs := []) (obl := []) (by kernel_rfl) trivial fun a678 hA679 => ?_
                      refine wl_end ?_
                      exact JK660 a678 (Has.to (Has.keep hA679 [74] rfl) (by rw [hb671]; rfl))
            obtain ⟨p542, hv681, h⟩ := bindS h
            cases hb680 : p516
            · have hA682 := Has.to (L' := [(0, .int .i64 p0), (1, .string p1), (42, .bool false)]) hA518 (by rw [hb680])
              replace hv681 := cfalse hb680 hv681
              have hk683 := h
              clear h
              have h := hv681
              refine wl_run 28 1 [0, 1, 42, 43] hA682 rfl (L' := [(0, .int .i64 p0), (1, .string p1), (42, .bool false), (43, .int .i64 p0)]) (vs := []) (obl := []) (by kernel_rfl) trivial fun a684 hA685 => ?_
              obtain ⟨y686, hy686, h⟩ := bindS h
              refine wl_call 29 rfl (d := some 44) (g := 21) (args := #[.int .i64 p0]) hA685 (by kernel_rfl) Try.call21 (mode_Text_ok n _ y686 w512 hy686) ?_
              rintro e w687 ⟨rfl, ex688⟩
              refine ⟨_, rfl, fun a689 hA690 => ?_⟩
              refine wl_run 30 1 [1, 42, 44, 45] hA690 rfl (L' := [(1, .string p1), (42, .bool false), (44, .string y686), (45, .int .i64 p0)]) (vs := []) (obl := []) (by kernel_rfl) trivial fun a691 hA692 => ?_
              obtain ⟨y693, hy693, h⟩ := bindS h
              refine wl_call 31 rfl (d := some 46) (g := 22) (args := #[.int .i64 p0]) hA692 (by kernel_rfl) Try.call22 (ref07_Name_ok n _ y693 w687 hy693) ?_
              rintro e w694 ⟨rfl, ex695⟩
              refine ⟨_, rfl, fun a696 hA697 => ?_⟩
              refine wl_run 32 2 [1, 48] hA697 rfl (L' := [(1, .string p1), (48, .bool (!(y686.toList == y693.toList)))]) (vs := []) (obl := []) (by kernel_rfl) trivial fun a698 hA699 => ?_
              refine wl_end ?_
              obtain rfl := someI h
              exact JK519 _ a698 w694 (Ext.trans ex688 ex695) (Has.keep hA699 [1, 48] rfl) hk683
            · have hA700 := Has.to (L' := [(0, .int .i64 p0), (1, .string p1), (42, .bool true)]) hA518 (by rw [hb680])
              replace hv681 := ctrue hb680 hv681
              have hk701 := h
              clear h
              have h := hv681
              refine wl_run 28 6 [1, 48] hA700 rfl (L' := [(1, .string p1), (48, .bool true)]) (vs := []) (obl := []) (by kernel_rfl) trivial fun a702 hA703 => ?_
              refine wl_end ?_
              obtain rfl := someI h
              exact JK519 _ a702 w512 (Ext.refl _) (Has.keep hA703 [1, 48] rfl) hk701
          obtain ⟨p516, hv705, h⟩ := bindS h
          cases hb704 : p490
          · have hA706 := Has.to (L' := [(0, .int .i64 p0), (1, .string p1), (35, .bool false)]) hA492 (by rw [hb704])
            replace hv705 := cfalse hb704 hv705
            have hk707 := h
            clear h
            have h := hv705
            refine wl_run 21 1 [0, 1, 35, 36] hA706 rfl (L' := [(0, .int .i64 p0), (1, .string p1), (35, .bool false), (36, .int .i64 p0)]) (vs := []) (obl := []) (by kernel_rfl) trivial fun a708 hA709 => ?_
            obtain ⟨y710, hy710, h⟩ := bindS h
            refine wl_call 22 rfl (d := some 37) (g := 20) (args := #[.int .i64 p0]) hA709 (by kernel_rfl) Try.call20 (mode_OfKeys_ok n _ y710 w486 hy710) ?_
            rintro e w711 ⟨rfl, ex712⟩
            refine ⟨_, rfl, fun a713 hA714 => ?_⟩
            refine wl_run 23 1 [0, 1, 35, 37, 38] hA714 rfl (L' := [(0, .int .i64 p0), (1, .string p1), (35, .bool false), (37, .bool y710), (38, .int .i64 p0)]) (vs := []) (obl := []) (by kernel_rfl) trivial fun a715 hA716 => ?_
            obtain ⟨y717, hy717, h⟩ := bindS h
            refine wl_call 24 rfl (d := some 39) (g := 16) (args := #[.int .i64 p0]) hA716 (by kernel_rfl) Try.call16 (ref07_Keys_ok n _ y717 w711 hy717) ?_
            rintro e w718 ⟨rfl, ex719⟩
            refine ⟨_, rfl, fun a720 hA721 => ?_⟩
            refine wl_run 25 2 [0, 1, 41] hA721 rfl (L' := [(0, .int .i64 p0), (1, .string p1), (41, .bool (!(y710 == y717)))]) (vs := []) (obl := []) (by kernel_rfl) trivial fun a722 hA723 => ?_
            refine wl_end ?_
            obtain rfl := someI h
            exact JK493 _ a722 w718 (Ext.trans ex712 ex719) (Has.keep hA723 [0, 1, 41] rfl) hk707
          · have hA724 := Has.to (L' := [(0, .int .i64 p0), (1, .string p1), (35, .bool true)]) hA492 (by rw [hb704])
            replace hv705 := ctrue hb704 hv705
            have hk725 := h
            clear h
            have h := hv705
            refine wl_run 21 6 [0, 1, 41] hA724 rfl (L' := [(0, .int .i64 p0), (1, .string p1), (41, .bool true)]) (vs := []) (obl := []) (by kernel_rfl) trivial fun a726 hA727 => ?_
            refine wl_end ?_
            obtain rfl := someI h
            exact JK493 _ a726 w486 (Ext.refl _) (Has.keep hA727 [0, 1, 41] rfl) hk725
        obtain ⟨p490, hv729, h⟩ := bindS h
        cases hb728 : ((!((y418 == 0) == y429)) || ((y418 != 0) && (y418 != 170)))
        · have hA730 := Has.to (L' := [(0, .int .i64 p0), (1, .string p1), (28, .bool false)]) hA466 (by rw [hb728])
          replace hv729 := cfalse hb728 hv729
          have hk731 := h
          clear h
          have h := hv729
          refine wl_run 14 1 [0, 1, 28, 29] hA730 rfl (L' := [(0, .int .i64 p0), (1, .string p1), (28, .bool false), (29, .int .i64 p0)]) (vs := []) (obl := []) (by kernel_rfl) trivial fun a732 hA733 => ?_
          obtain ⟨y734, hy734, h⟩ := bindS h
          refine wl_call 15 rfl (d := some 30) (g := 19) (args := #[.int .i64 p0]) hA733 (by kernel_rfl) Try.call19 (mode_OfTables_ok n _ y734 w430 hy734) ?_
          rintro e w735 ⟨rfl, ex736⟩
          refine ⟨_, rfl, fun a737 hA738 => ?_⟩
          refine wl_run 16 1 [0, 1, 28, 30, 31] hA738 rfl (L' := [(0, .int .i64 p0), (1, .string p1), (28, .bool false), (30, .bool y734), (31, .int .i64 p0)]) (vs := []) (obl := []) (by kernel_rfl) trivial fun a739 hA740 => ?_
          obtain ⟨y741, hy741, h⟩ := bindS h
          refine wl_call 17 rfl (d := some 32) (g := 15) (args := #[.int .i64 p0]) hA740 (by kernel_rfl) Try.call15 (ref07_Tables_ok n _ y741 w735 hy741) ?_
          rintro e w742 ⟨rfl, ex743⟩
          refine ⟨_, rfl, fun a744 hA745 => ?_⟩
          refine wl_run 18 2 [0, 1, 34] hA745 rfl (L' := [(0, .int .i64 p0), (1, .string p1), (34, .bool (!(y734 == y741)))]) (vs := []) (obl := []) (by kernel_rfl) trivial fun a746 hA747 => ?_
          refine wl_end ?_
          obtain rfl := someI h
          exact JK467 _ a746 w742 (Ext.trans ex736 ex743) (Has.keep hA747 [0, 1, 34] rfl) hk731
        · have hA748 := Has.to (L' := [(0, .int .i64 p0), (1, .string p1), (28, .bool true)]) hA466 (by rw [hb728])
          replace hv729 := ctrue hb728 hv729
          have hk749 := h
          clear h
          have h := hv729
          refine wl_run 14 6 [0, 1, 34] hA748 rfl (L' := [(0, .int .i64 p0), (1, .string p1), (34, .bool true)]) (vs := []) (obl := []) (by kernel_rfl) trivial fun a750 hA751 => ?_
          refine wl_end ?_
          obtain rfl := someI h
          exact JK467 _ a750 w430 (Ext.refl _) (Has.keep hA751 [0, 1, 34] rfl) hk749
      cases hb752 : (!((y418 == 0) == y429))
      · have hA753 := Has.to (L' := [(0, .int .i64 p0), (1, .string p1), (5, .int .i64 y418), (20, .bool false)]) hA435 (by rw [hb752])
        refine wl_run 6 3 [0, 1, 5, 20, 23] hA753 rfl (L' := [(0, .int .i64 p0), (1, .string p1), (5, .int .i64 y418), (20, .bool false), (23, .bool (y418 != 0))]) (vs := []) (obl := []) (by kernel_rfl) trivial fun a755 hA756 => ?_
        refine wl_cut 12 rfl rfl fun K757 hK757 => ?_
        have JK757 : ∀ (a763 : Act), Has a763 75 [(0, .int .i64 p0), (1, .string p1), (20, .bool false), (26, .bool ((y418 != 0) && (y418 != 170)))] → K757 a763 w430 := by
          intro a763 hA764
          refine hK757 _ _ ?_
          refine wl_run 12 1 [0, 1, 27] hA764 rfl (L' := [(0, .int .i64 p0), (1, .string p1), (27, .bool ((y418 != 0) && (y418 != 170)))]) (vs := []) (obl := []) (by kernel_rfl) trivial fun a766 hA767 => ?_
          refine wl_end ?_
          exact JK436 a766 (Has.to (Has.keep hA767 [0, 1, 27] rfl) (by rw [hb752]; rfl))
        cases hb768 : (y418 != 0)
        · have hA769 := Has.to (L' := [(0, .int .i64 p0), (1, .string p1), (5, .int .i64 y418), (20, .bool false), (23, .bool false)]) hA756 (by rw [hb768])
          refine wl_run 9 3 [0, 1, 20, 26] hA769 rfl (L' := [(0, .int .i64 p0), (1, .string p1), (20, .bool false), (26, .bool false)]) (vs := []) (obl := []) (by kernel_rfl) trivial fun a771 hA772 => ?_
          refine wl_end ?_
          exact JK757 a771 (Has.to (Has.keep hA772 [0, 1, 20, 26] rfl) (by rw [hb768]; rfl))
        · have hA773 := Has.to (L' := [(0, .int .i64 p0), (1, .string p1), (5, .int .i64 y418), (20, .bool false), (23, .bool true)]) hA756 (by rw [hb768])
          refine wl_run 9 3 [0, 1, 20, 26] hA773 rfl (L' := [(0, .int .i64 p0), (1, .string p1), (20, .bool false), (26, .bool (y418 != 170))]) (vs := []) (obl := []) (by kernel_rfl) trivial fun a775 hA776 => ?_
          refine wl_end ?_
          exact JK757 a775 (Has.to (Has.keep hA776 [0, 1, 20, 26] rfl) (by rw [hb768]; rfl))
      · have hA777 := Has.to (L' := [(0, .int .i64 p0), (1, .string p1), (5, .int .i64 y418), (20, .bool true)]) hA435 (by rw [hb752])
        refine wl_run 6 7 [0, 1, 27] hA777 rfl (L' := [(0, .int .i64 p0), (1, .string p1), (27, .bool true)]) (vs := []) (obl := []) (by kernel_rfl) trivial fun a779 hA780 => ?_
        refine wl_end ?_
        exact JK436 a779 (Has.to (Has.keep hA780 [0, 1, 27] rfl) (by rw [hb752]; rfl))

/-! bursary bursarylaw07.ModeBack -/
def law07_ModeBack_j1 (n : Nat)  (p310 : Bool) : Option Bool :=
  some p310
def law07_ModeBack_j2 (n : Nat) (p1 : ByteArray)  : Option Bool :=
  (mode_Parse n p1).bind fun y284 =>
  (cond (y284.2 != 0)
  (some true)
  ((mode_Text n y284.1).bind fun y319 =>
  some (y319.toList == p1.toList))).bind fun p310 =>
  law07_ModeBack_j1 n p310
def law07_ModeBack (n : Nat) (p0 : Int) (p1 : ByteArray) : Option Bool :=
  (law07_wakes n).bind fun y202 =>
  cond (!y202)
    (some false)
    ((mode_Text n p0).bind fun y333 =>
    cond (!(y333.toList == (ByteArray.mk #[]).toList))
      ((mode_Parse n y333).bind fun y347 =>
      cond ((y347.2 != 0) || (y347.1 != p0))
        (some false)
        (law07_ModeBack_j2 n p1))
      ((mode_Check n p0).bind fun y382 =>
      cond (y382 == 0)
        (some false)
        (law07_ModeBack_j2 n p1)))
noncomputable def law07_ModeBack_c0 : Code := bodyOf Try.f7
noncomputable def law07_ModeBack_c1 : Code := seqL law07_ModeBack_c0
noncomputable def law07_ModeBack_c2 : Code := seqR law07_ModeBack_c0
noncomputable def law07_ModeBack_c1o : Array Oper := regO law07_ModeBack_c1
noncomputable def law07_ModeBack_c3 : Code := seqL law07_ModeBack_c2
noncomputable def law07_ModeBack_c4 : Code := seqR law07_ModeBack_c2
noncomputable def law07_ModeBack_c5 : Code := seqL law07_ModeBack_c3
noncomputable def law07_ModeBack_c6 : Code := seqR law07_ModeBack_c3
noncomputable def law07_ModeBack_c5o : Array Oper := regO law07_ModeBack_c5
noncomputable def law07_ModeBack_c7 : Code := condT law07_ModeBack_c6
noncomputable def law07_ModeBack_c8 : Code := condE law07_ModeBack_c6
noncomputable def law07_ModeBack_c9 : Code := seqL law07_ModeBack_c7
noncomputable def law07_ModeBack_c10 : Code := seqR law07_ModeBack_c7
noncomputable def law07_ModeBack_c9o : Array Oper := regO law07_ModeBack_c9
noncomputable def law07_ModeBack_c11 : Code := seqL law07_ModeBack_c4
noncomputable def law07_ModeBack_c12 : Code := seqR law07_ModeBack_c4
noncomputable def law07_ModeBack_c13 : Code := seqL law07_ModeBack_c12
noncomputable def law07_ModeBack_c14 : Code := seqR law07_ModeBack_c12
noncomputable def law07_ModeBack_c13o : Array Oper := regO law07_ModeBack_c13
noncomputable def law07_ModeBack_c15 : Code := seqL law07_ModeBack_c14
noncomputable def law07_ModeBack_c16 : Code := seqR law07_ModeBack_c14
noncomputable def law07_ModeBack_c15o : Array Oper := regO law07_ModeBack_c15
noncomputable def law07_ModeBack_c17 : Code := seqL law07_ModeBack_c11
noncomputable def law07_ModeBack_c18 : Code := seqR law07_ModeBack_c11
noncomputable def law07_ModeBack_c17o : Array Oper := regO law07_ModeBack_c17
noncomputable def law07_ModeBack_c19 : Code := seqL law07_ModeBack_c18
noncomputable def law07_ModeBack_c20 : Code := seqR law07_ModeBack_c18
noncomputable def law07_ModeBack_c19o : Array Oper := regO law07_ModeBack_c19
noncomputable def law07_ModeBack_c21 : Code := condT law07_ModeBack_c20
noncomputable def law07_ModeBack_c22 : Code := condE law07_ModeBack_c20
noncomputable def law07_ModeBack_c23 : Code := seqL law07_ModeBack_c21
noncomputable def law07_ModeBack_c24 : Code := seqR law07_ModeBack_c21
noncomputable def law07_ModeBack_c23o : Array Oper := regO law07_ModeBack_c23
noncomputable def law07_ModeBack_c25 : Code := seqL law07_ModeBack_c24
noncomputable def law07_ModeBack_c26 : Code := seqR law07_ModeBack_c24
noncomputable def law07_ModeBack_c25o : Array Oper := regO law07_ModeBack_c25
noncomputable def law07_ModeBack_c27 : Code := condT law07_ModeBack_c26
noncomputable def law07_ModeBack_c28 : Code := condE law07_ModeBack_c26
noncomputable def law07_ModeBack_c29 : Code := seqL law07_ModeBack_c27
noncomputable def law07_ModeBack_c30 : Code := seqR law07_ModeBack_c27
noncomputable def law07_ModeBack_c29o : Array Oper := regO law07_ModeBack_c29
noncomputable def law07_ModeBack_c31 : Code := seqL law07_ModeBack_c22
noncomputable def law07_ModeBack_c32 : Code := seqR law07_ModeBack_c22
noncomputable def law07_ModeBack_c31o : Array Oper := regO law07_ModeBack_c31
noncomputable def law07_ModeBack_c33 : Code := condT law07_ModeBack_c32
noncomputable def law07_ModeBack_c34 : Code := condE law07_ModeBack_c32
noncomputable def law07_ModeBack_c35 : Code := seqL law07_ModeBack_c33
noncomputable def law07_ModeBack_c36 : Code := seqR law07_ModeBack_c33
noncomputable def law07_ModeBack_c35o : Array Oper := regO law07_ModeBack_c35
theorem law07_ModeBack_ok (n : Nat) (p0 : Int) (p1 : ByteArray) (r : Bool) (w : World)  (h : law07_ModeBack n p0 p1 = some r) :
    Calls Try.prog 7 #[.int .i64 p0, .string p1] w fun e w' => e = .returned (.bool r) ∧ Ext w w' := by
  unfold law07_ModeBack at h
  refine enter 44 Try.func7 rfl (by kernel_rfl) (by simp) fun a hA => ?_
  change law07_ModeBack_c0.wp _ _ _ _
  refine c_seq law07_ModeBack_c1 law07_ModeBack_c2 (by kernel_rfl) fun K197 hK197 => ?_
  refine c_region law07_ModeBack_c1o 1 (by kernel_rfl) (by kernel_rfl) ?_
  refine wl_run 0 1 [0, 1] hA rfl (L' := [(0, .int .i64 p0), (1, .string p1)]) (vs := []) (obl := []) (by kernel_rfl) trivial fun a198 hA199 => ?_
  refine wl_end ?_
  refine hK197 _ _ ?_
  refine c_seq law07_ModeBack_c3 law07_ModeBack_c4 (by kernel_rfl) fun K200 hK200 => ?_
  refine c_seq law07_ModeBack_c5 law07_ModeBack_c6 (by kernel_rfl) fun K201 hK201 => ?_
  refine c_region law07_ModeBack_c5o 2 (by kernel_rfl) (by kernel_rfl) ?_
  obtain ⟨y202, hy202, h⟩ := bindS h
  refine wl_call 0 rfl (d := some 10) (g := 8) (args := #[]) hA199 (by kernel_rfl) Try.call8 (law07_wakes_ok n y202 w hy202) ?_
  rintro e w203 ⟨rfl, ex204⟩
  refine ⟨_, rfl, fun a205 hA206 => ?_⟩
  refine wl_run 1 1 [0, 1, 11] hA206 rfl (L' := [(0, .int .i64 p0), (1, .string p1), (11, .bool (!y202))]) (vs := []) (obl := []) (by kernel_rfl) trivial fun a207 hA208 => ?_
  refine wl_end ?_
  refine hK201 _ _ ?_
  refine c_cond law07_ModeBack_c7 law07_ModeBack_c8 (condX law07_ModeBack_c6) (!y202) hA208 (by kernel_rfl) (by kernel_rfl) (by kernel_rfl) (fun hb209 => ?_) (fun hb209 => ?_)
  · replace h := ctrue hb209 h
    refine c_seq law07_ModeBack_c9 law07_ModeBack_c10 (by kernel_rfl) fun K210 hK210 => ?_
    refine c_region law07_ModeBack_c9o 1 (by kernel_rfl) (by kernel_rfl) ?_
    refine wl_run 0 1 [4] hA208 rfl (L' := [(4, .bool false)]) (vs := []) (obl := []) (by kernel_rfl) trivial fun a211 hA212 => ?_
    refine wl_end ?_
    refine hK210 _ _ ?_
    refine c_ret (by kernel_rfl) ?_
    obtain rfl := someI h
    try simp only [Exit.then, Exit.inBlock]
    refine ret1 hA212 4 _ (by kernel_rfl) rfl rfl ?_
    exact ⟨rfl, ex204⟩
  · replace h := cfalse hb209 h
    refine c_skip (by kernel_rfl) ?_
    refine hK200 _ _ ?_
    refine c_seq law07_ModeBack_c11 law07_ModeBack_c12 (by kernel_rfl) fun K213 hK213 => ?_
    have JK213 : ∀ (a279 : Act) (w277 : World) (ex278 : Ext w203 w277) (hA280 : Has a279 44 [(1, .string p1)]), law07_ModeBack_j2 n p1 = some r → K213 a279 w277 := by
      intro a279 w277 ex278 hA280 h
      unfold law07_ModeBack_j2 at h
      refine hK213 _ _ ?_
      refine c_seq law07_ModeBack_c13 law07_ModeBack_c14 (by kernel_rfl) fun K281 hK281 => ?_
      refine c_region law07_ModeBack_c13o 7 (by kernel_rfl) (by kernel_rfl) ?_
      refine wl_run 0 1 [1, 32] hA280 rfl (L' := [(1, .string p1), (32, .string p1)]) (vs := []) (obl := []) (by kernel_rfl) trivial fun a282 hA283 => ?_
      obtain ⟨y284, hy284, h⟩ := bindS h
      refine wl_call 1 rfl (d := some 33) (g := 23) (args := #[.string p1]) hA283 (by kernel_rfl) Try.call23 (mode_Parse_ok n _ y284 w277 hy284) ?_
      rintro e w285 ⟨rfl, ex286⟩
      refine ⟨_, rfl, fun a287 hA288 => ?_⟩
      refine wl_run 2 5 [1, 8, 9] hA288 rfl (L' := [(1, .string p1), (8, .int .i64 y284.1), (9, .int .i64 y284.2)]) (vs := []) (obl := []) (by kernel_rfl) trivial fun a289 hA290 => ?_
      refine wl_end ?_
      refine hK281 _ _ ?_
      refine c_seq law07_ModeBack_c15 law07_ModeBack_c16 (by kernel_rfl) fun K291 hK291 => ?_
      refine c_region law07_ModeBack_c15o 9 (by kernel_rfl) (by kernel_rfl) ?_
      refine wl_run 0 3 [1, 8, 38] hA290 rfl (L' := [(1, .string p1), (8, .int .i64 y284.1), (38, .bool (y284.2 != 0))]) (vs := []) (obl := []) (by kernel_rfl) trivial fun a292 hA293 => ?_
      refine wl_cut 8 rfl rfl fun K294 hK294 => ?_
      have JK294 : ∀ (p310 : Bool) (a307 : Act) (w306 : World), Ext w285 w306 → Has a307 44 [(43, .bool p310)] → law07_ModeBack_j1 n p310 = some r → K294 a307 w306 := by
        intro p310 a307 w306 ex309 hA308 h
        unfold law07_ModeBack_j1 at h
        refine hK294 _ _ ?_
        refine wl_run 8 1 [4] hA308 rfl (L' := [(4, .bool p310)]) (vs := []) (obl := []) (by kernel_rfl) trivial fun a311 hA312 => ?_
        refine wl_end ?_
        refine hK291 _ _ ?_
        refine c_ret (by kernel_rfl) ?_
        obtain rfl := someI h
        try simp only [Exit.then, Exit.inBlock]
        refine ret1 hA312 4 _ (by kernel_rfl) rfl rfl ?_
        exact ⟨rfl, (Ext.trans (Ext.trans (Ext.trans ex204 ex278) ex286) ex309)⟩
      obtain ⟨p310, hv314, h⟩ := bindS h
      cases hb313 : (y284.2 != 0)
      · have hA315 := Has.to (L' := [(1, .string p1), (8, .int .i64 y284.1), (38, .bool false)]) hA293 (by rw [hb313])
        replace hv314 := cfalse hb313 hv314
        have hk316 := h
        clear h
        have h := hv314
        refine wl_run 3 1 [1, 38, 39] hA315 rfl (L' := [(1, .string p1), (38, .bool false), (39, .int .i64 y284.1)]) (vs := []) (obl := []) (by kernel_rfl) trivial fun a317 hA318 => ?_
        obtain ⟨y319, hy319, h⟩ := bindS h
        refine wl_call 4 rfl (d := some 40) (g := 21) (args := #[.int .i64 y284.1]) hA318 (by kernel_rfl) Try.call21 (mode_Text_ok n _ y319 w285 hy319) ?_
        rintro e w320 ⟨rfl, ex321⟩
        refine ⟨_, rfl, fun a322 hA323 => ?_⟩
        refine wl_run 5 3 [43] hA323 rfl (L' := [(43, .bool (y319.toList == p1.toList))]) (vs := []) (obl := []) (by kernel_rfl) trivial fun a324 hA325 => ?_
        refine wl_end ?_
        obtain rfl := someI h
        exact JK294 _ a324 w320 ex321 (Has.keep hA325 [43] rfl) hk316
      · have hA326 := Has.to (L' := [(1, .string p1), (8, .int .i64 y284.1), (38, .bool true)]) hA293 (by rw [hb313])
        replace hv314 := ctrue hb313 hv314
        have hk327 := h
        clear h
        have h := hv314
        refine wl_run 3 5 [43] hA326 rfl (L' := [(43, .bool true)]) (vs := []) (obl := []) (by kernel_rfl) trivial fun a328 hA329 => ?_
        refine wl_end ?_
        obtain rfl := someI h
        exact JK294 _ a328 w285 (Ext.refl _) (Has.keep hA329 [43] rfl) hk327
    refine c_seq law07_ModeBack_c17 law07_ModeBack_c18 (by kernel_rfl) fun K330 hK330 => ?_
    refine c_region law07_ModeBack_c17o 3 (by kernel_rfl) (by kernel_rfl) ?_
    refine wl_run 0 1 [0, 1, 12] hA208 rfl (L' := [(0, .int .i64 p0), (1, .string p1), (12, .int .i64 p0)]) (vs := []) (obl := []) (by kernel_rfl) trivial fun a331 hA332 => ?_
    obtain ⟨y333, hy333, h⟩ := bindS h
    refine wl_call 1 rfl (d := some 13) (g := 21) (args := #[.int .i64 p0]) hA332 (by kernel_rfl) Try.call21 (mode_Text_ok n _ y333 w203 hy333) ?_
    rintro e w334 ⟨rfl, ex335⟩
    refine ⟨_, rfl, fun a336 hA337 => ?_⟩
    refine wl_run 2 1 [0, 1, 5] hA337 rfl (L' := [(0, .int .i64 p0), (1, .string p1), (5, .string y333)]) (vs := []) (obl := []) (by kernel_rfl) trivial fun a338 hA339 => ?_
    refine wl_end ?_
    refine hK330 _ _ ?_
    refine c_seq law07_ModeBack_c19 law07_ModeBack_c20 (by kernel_rfl) fun K340 hK340 => ?_
    refine c_region law07_ModeBack_c19o 2 (by kernel_rfl) (by kernel_rfl) ?_
    refine wl_run 0 2 [0, 1, 5, 15] hA339 rfl (L' := [(0, .int .i64 p0), (1, .string p1), (5, .string y333), (15, .bool (!(y333.toList == (ByteArray.mk #[]).toList)))]) (vs := []) (obl := []) (by kernel_rfl) trivial fun a341 hA342 => ?_
    refine wl_end ?_
    refine hK340 _ _ ?_
    refine c_cond law07_ModeBack_c21 law07_ModeBack_c22 (condX law07_ModeBack_c20) (!(y333.toList == (ByteArray.mk #[]).toList)) hA342 (by kernel_rfl) (by kernel_rfl) (by kernel_rfl) (fun hb343 => ?_) (fun hb343 => ?_)
    · replace h := ctrue hb343 h
      refine c_seq law07_ModeBack_c23 law07_ModeBack_c24 (by kernel_rfl) fun K344 hK344 => ?_
      refine c_region law07_ModeBack_c23o 7 (by kernel_rfl) (by kernel_rfl) ?_
      refine wl_run 0 1 [0, 1, 17] hA342 rfl (L' := [(0, .int .i64 p0), (1, .string p1), (17, .string y333)]) (vs := []) (obl := []) (by kernel_rfl) trivial fun a345 hA346 => ?_
      obtain ⟨y347, hy347, h⟩ := bindS h
      refine wl_call 1 rfl (d := some 18) (g := 23) (args := #[.string y333]) hA346 (by kernel_rfl) Try.call23 (mode_Parse_ok n _ y347 w334 hy347) ?_
      rintro e w348 ⟨rfl, ex349⟩
      refine ⟨_, rfl, fun a350 hA351 => ?_⟩
      refine wl_run 2 5 [0, 1, 6, 7] hA351 rfl (L' := [(0, .int .i64 p0), (1, .string p1), (6, .int .i64 y347.1), (7, .int .i64 y347.2)]) (vs := []) (obl := []) (by kernel_rfl) trivial fun a352 hA353 => ?_
      refine wl_end ?_
      refine hK344 _ _ ?_
      refine c_seq law07_ModeBack_c25 law07_ModeBack_c26 (by kernel_rfl) fun K354 hK354 => ?_
      refine c_region law07_ModeBack_c25o 7 (by kernel_rfl) (by kernel_rfl) ?_
      refine wl_run 0 3 [0, 1, 6, 23] hA353 rfl (L' := [(0, .int .i64 p0), (1, .string p1), (6, .int .i64 y347.1), (23, .bool (y347.2 != 0))]) (vs := []) (obl := []) (by kernel_rfl) trivial fun a355 hA356 => ?_
      refine wl_cut 7 rfl rfl fun K357 hK357 => ?_
      have JK357 : ∀ (a363 : Act), Has a363 44 [(1, .string p1), (27, .bool ((y347.2 != 0) || (y347.1 != p0)))] → K357 a363 w348 := by
        intro a363 hA364
        refine hK357 _ _ ?_
        refine wl_end ?_
        refine hK354 _ _ ?_
        refine c_cond law07_ModeBack_c27 law07_ModeBack_c28 (condX law07_ModeBack_c26) ((y347.2 != 0) || (y347.1 != p0)) hA364 (by kernel_rfl) (by kernel_rfl) (by kernel_rfl) (fun hb366 => ?_) (fun hb366 => ?_)
        · replace h := ctrue hb366 h
          refine c_seq law07_ModeBack_c29 law07_ModeBack_c30 (by kernel_rfl) fun K367 hK367 => ?_
          refine c_region law07_ModeBack_c29o 1 (by kernel_rfl) (by kernel_rfl) ?_
          refine wl_run 0 1 [4] hA364 rfl (L' := [(4, .bool false)]) (vs := []) (obl := []) (by kernel_rfl) trivial fun a368 hA369 => ?_
          refine wl_end ?_
          refine hK367 _ _ ?_
          refine c_ret (by kernel_rfl) ?_
          obtain rfl := someI h
          try simp only [Exit.then, Exit.inBlock]
          refine ret1 hA369 4 _ (by kernel_rfl) rfl rfl ?_
          exact ⟨rfl, (Ext.trans (Ext.trans ex204 ex335) ex349)⟩
        · replace h := cfalse hb366 h
          refine c_skip (by kernel_rfl) ?_
          exact JK213 a363 w348 (Ext.trans ex335 ex349) (Has.keep hA364 [1] rfl) h
      cases hb370 : (y347.2 != 0)
      · have hA371 := Has.to (L' := [(0, .int .i64 p0), (1, .string p1), (6, .int .i64 y347.1), (23, .bool false)]) hA356 (by rw [hb370])
        refine wl_run 3 4 [1, 27] hA371 rfl (L' := [(1, .string p1), (27, .bool (y347.1 != p0))]) (vs := []) (obl := []) (by kernel_rfl) trivial fun a373 hA374 => ?_
        refine wl_end ?_
        exact JK357 a373 (Has.to (Has.keep hA374 [1, 27] rfl) (by rw [hb370]; rfl))
      · have hA375 := Has.to (L' := [(0, .int .i64 p0), (1, .string p1), (6, .int .i64 y347.1), (23, .bool true)]) hA356 (by rw [hb370])
        refine wl_run 3 4 [1, 27] hA375 rfl (L' := [(1, .string p1), (27, .bool true)]) (vs := []) (obl := []) (by kernel_rfl) trivial fun a377 hA378 => ?_
        refine wl_end ?_
        exact JK357 a377 (Has.to (Has.keep hA378 [1, 27] rfl) (by rw [hb370]; rfl))
    · replace h := cfalse hb343 h
      refine c_seq law07_ModeBack_c31 law07_ModeBack_c32 (by kernel_rfl) fun K379 hK379 => ?_
      refine c_region law07_ModeBack_c31o 3 (by kernel_rfl) (by kernel_rfl) ?_
      refine wl_run 0 1 [1, 28] hA342 rfl (L' := [(1, .string p1), (28, .int .i64 p0)]) (vs := []) (obl := []) (by kernel_rfl) trivial fun a380 hA381 => ?_
      obtain ⟨y382, hy382, h⟩ := bindS h
      refine wl_call 1 rfl (d := some 29) (g := 18) (args := #[.int .i64 p0]) hA381 (by kernel_rfl) Try.call18 (mode_Check_ok n _ y382 w334 hy382) ?_
      rintro e w383 ⟨rfl, ex384⟩
      refine ⟨_, rfl, fun a385 hA386 => ?_⟩
      refine wl_run 2 1 [1, 30] hA386 rfl (L' := [(1, .string p1), (30, .bool (y382 == 0))]) (vs := []) (obl := []) (by kernel_rfl) trivial fun a387 hA388 => ?_
      refine wl_end ?_
      refine hK379 _ _ ?_
      refine c_cond law07_ModeBack_c33 law07_ModeBack_c34 (condX law07_ModeBack_c32) (y382 == 0) hA388 (by kernel_rfl) (by kernel_rfl) (by kernel_rfl) (fun hb389 => ?_) (fun hb389 => ?_)
      · replace h := ctrue hb389 h
        refine c_seq law07_ModeBack_c35 law07_ModeBack_c36 (by kernel_rfl) fun K390 hK390 => ?_
        refine c_region law07_ModeBack_c35o 1 (by kernel_rfl) (by kernel_rfl) ?_
        refine wl_run 0 1 [4] hA388 rfl (L' := [(4, .bool false)]) (vs := []) (obl := []) (by kernel_rfl) trivial fun a391 hA392 => ?_
        refine wl_end ?_
        refine hK390 _ _ ?_
        refine c_ret (by kernel_rfl) ?_
        obtain rfl := someI h
        try simp only [Exit.then, Exit.inBlock]
        refine ret1 hA392 4 _ (by kernel_rfl) rfl rfl ?_
        exact ⟨rfl, (Ext.trans (Ext.trans ex204 ex335) ex384)⟩
      · replace h := cfalse hb389 h
        refine c_skip (by kernel_rfl) ?_
        exact JK213 a387 w383 (Ext.trans ex335 ex384) (Has.keep hA388 [1] rfl) h

end Go.Proofs.Ytghinjlfaicpjaa
