/- Functions of the program: plain twins and walks, printed by program. -/
import Derived.Test.YtghinjlfaicpjaaTypes
import Derived.Test.YtghinjlfaicpjaaF0
import Derived.Test.YtghinjlfaicpjaaF1
import Derived.Test.YtghinjlfaicpjaaF2
import Derived.Test.YtghinjlfaicpjaaF3
namespace Go.Proofs.Ytghinjlfaicpjaa
open Go.Bur Go.RowKit
set_option linter.unusedVariables false
set_option linter.unusedSimpArgs false
set_option maxRecDepth 100000
/-! bursary bursarylaw07.ModeOrder -/
def law07_ModeOrder_j1 (n : Nat)  (p779 : Bool) : Option Bool :=
  some p779
def law07_ModeOrder_j2 (n : Nat) (p1 : Int) (p2 : Int) (p760 : Bool) : Option Bool :=
  (cond p760
  (some true)
  ((mode_Goes n p1 p2).bind fun y788 =>
  some y788)).bind fun p779 =>
  law07_ModeOrder_j1 n p779
def law07_ModeOrder_j3 (n : Nat) (p0 : Int) (p1 : Int) (p2 : Int) (p707 : Bool) : Option Bool :=
  cond p707
    (some false)
    ((mode_Goes n p0 p1).bind fun y716 =>
    (mode_Goes n p1 p0).bind fun y723 =>
    cond (!(y716 == y723))
      (some false)
      ((mode_Covers n p0 p1).bind fun y737 =>
      (cond (!y737)
  (some true)
  ((mode_Goes n p0 p2).bind fun y805 =>
  some (!y805))).bind fun p760 =>
      law07_ModeOrder_j2 n p1 p2 p760))
def law07_ModeOrder_j4 (n : Nat)  (p864 : Bool) : Option Bool :=
  some p864
def law07_ModeOrder_j5 (n : Nat) (p0 : Int) (p2 : Int) (p845 : Bool) : Option Bool :=
  (cond p845
  ((mode_Covers n p0 p2).bind fun y877 =>
  some (!y877))
  (some false)).bind fun p864 =>
  law07_ModeOrder_j4 n p864
def law07_ModeOrder_j6 (n : Nat) (p0 : Int) (p1 : Int) (p2 : Int) (p616 : Bool) : Option Bool :=
  (cond p616
  (some true)
  ((mode_Covers n p0 p1).bind fun y822 =>
  (cond y822
  ((mode_Covers n p1 p2).bind fun y894 =>
  some y894)
  (some false)).bind fun p845 =>
  law07_ModeOrder_j5 n p0 p2 p845)).bind fun p707 =>
  law07_ModeOrder_j3 n p0 p1 p2 p707
def law07_ModeOrder_j7 (n : Nat) (p0 : Int) (p1 : Int) (p934 : Bool) : Option Bool :=
  some (p934 && (p0 != p1))
def law07_ModeOrder_j8 (n : Nat) (p0 : Int) (p1 : Int) (p2 : Int) (p541 : Bool) : Option Bool :=
  (cond p541
  (some true)
  ((mode_Covers n p0 p1).bind fun y911 =>
  (cond y911
  ((mode_Covers n p1 p0).bind fun y967 =>
  some y967)
  (some false)).bind fun p934 =>
  law07_ModeOrder_j7 n p0 p1 p934)).bind fun p616 =>
  law07_ModeOrder_j6 n p0 p1 p2 p616
def law07_ModeOrder (n : Nat) (p0 : Int) (p1 : Int) (p2 : Int) : Option Bool :=
  (law07_wakes n).bind fun y503 =>
  cond (!y503)
    (some false)
    ((mode_Check n p0).bind fun y518 =>
    (cond (y518 == 0)
  ((mode_Covers n p0 p0).bind fun y988 =>
  some (!y988))
  (some false)).bind fun p541 =>
    law07_ModeOrder_j8 n p0 p1 p2 p541)
noncomputable def law07_ModeOrder_c0 : Code := bodyOf Try.f5
noncomputable def law07_ModeOrder_c1 : Code := seqL law07_ModeOrder_c0
noncomputable def law07_ModeOrder_c2 : Code := seqR law07_ModeOrder_c0
noncomputable def law07_ModeOrder_c1o : Array Oper := regO law07_ModeOrder_c1
noncomputable def law07_ModeOrder_c3 : Code := seqL law07_ModeOrder_c2
noncomputable def law07_ModeOrder_c4 : Code := seqR law07_ModeOrder_c2
noncomputable def law07_ModeOrder_c5 : Code := seqL law07_ModeOrder_c3
noncomputable def law07_ModeOrder_c6 : Code := seqR law07_ModeOrder_c3
noncomputable def law07_ModeOrder_c5o : Array Oper := regO law07_ModeOrder_c5
noncomputable def law07_ModeOrder_c7 : Code := condT law07_ModeOrder_c6
noncomputable def law07_ModeOrder_c8 : Code := condE law07_ModeOrder_c6
noncomputable def law07_ModeOrder_c9 : Code := seqL law07_ModeOrder_c7
noncomputable def law07_ModeOrder_c10 : Code := seqR law07_ModeOrder_c7
noncomputable def law07_ModeOrder_c9o : Array Oper := regO law07_ModeOrder_c9
noncomputable def law07_ModeOrder_c11 : Code := seqL law07_ModeOrder_c4
noncomputable def law07_ModeOrder_c12 : Code := seqR law07_ModeOrder_c4
noncomputable def law07_ModeOrder_c13 : Code := seqL law07_ModeOrder_c11
noncomputable def law07_ModeOrder_c14 : Code := seqR law07_ModeOrder_c11
noncomputable def law07_ModeOrder_c13o : Array Oper := regO law07_ModeOrder_c13
noncomputable def law07_ModeOrder_c15 : Code := condT law07_ModeOrder_c14
noncomputable def law07_ModeOrder_c16 : Code := condE law07_ModeOrder_c14
noncomputable def law07_ModeOrder_c17 : Code := seqL law07_ModeOrder_c15
noncomputable def law07_ModeOrder_c18 : Code := seqR law07_ModeOrder_c15
noncomputable def law07_ModeOrder_c17o : Array Oper := regO law07_ModeOrder_c17
noncomputable def law07_ModeOrder_c19 : Code := seqL law07_ModeOrder_c12
noncomputable def law07_ModeOrder_c20 : Code := seqR law07_ModeOrder_c12
noncomputable def law07_ModeOrder_c21 : Code := seqL law07_ModeOrder_c19
noncomputable def law07_ModeOrder_c22 : Code := seqR law07_ModeOrder_c19
noncomputable def law07_ModeOrder_c21o : Array Oper := regO law07_ModeOrder_c21
noncomputable def law07_ModeOrder_c23 : Code := condT law07_ModeOrder_c22
noncomputable def law07_ModeOrder_c24 : Code := condE law07_ModeOrder_c22
noncomputable def law07_ModeOrder_c25 : Code := seqL law07_ModeOrder_c23
noncomputable def law07_ModeOrder_c26 : Code := seqR law07_ModeOrder_c23
noncomputable def law07_ModeOrder_c25o : Array Oper := regO law07_ModeOrder_c25
noncomputable def law07_ModeOrder_c27 : Code := seqL law07_ModeOrder_c20
noncomputable def law07_ModeOrder_c28 : Code := seqR law07_ModeOrder_c20
noncomputable def law07_ModeOrder_c27o : Array Oper := regO law07_ModeOrder_c27
theorem law07_ModeOrder_ok (n : Nat) (p0 : Int) (p1 : Int) (p2 : Int) (r : Bool) (w : World)  (h : law07_ModeOrder n p0 p1 p2 = some r) :
    Calls Try.prog 5 #[.int .i64 p0, .int .i64 p1, .int .i64 p2] w fun e w' => e = .returned (.bool r) ∧ Ext w w' := by
  unfold law07_ModeOrder at h
  refine enter 71 Try.func5 rfl (by kernel_rfl) (by simp) fun a hA => ?_
  change law07_ModeOrder_c0.wp _ _ _ _
  refine c_seq law07_ModeOrder_c1 law07_ModeOrder_c2 (by kernel_rfl) fun K498 hK498 => ?_
  refine c_region law07_ModeOrder_c1o 1 (by kernel_rfl) (by kernel_rfl) ?_
  refine wl_run 0 1 [0, 1, 2] hA rfl (L' := [(0, .int .i64 p0), (1, .int .i64 p1), (2, .int .i64 p2)]) (vs := []) (obl := []) (by kernel_rfl) trivial fun a499 hA500 => ?_
  refine wl_end ?_
  refine hK498 _ _ ?_
  refine c_seq law07_ModeOrder_c3 law07_ModeOrder_c4 (by kernel_rfl) fun K501 hK501 => ?_
  refine c_seq law07_ModeOrder_c5 law07_ModeOrder_c6 (by kernel_rfl) fun K502 hK502 => ?_
  refine c_region law07_ModeOrder_c5o 2 (by kernel_rfl) (by kernel_rfl) ?_
  obtain ⟨y503, hy503, h⟩ := bindS h
  refine wl_call 0 rfl (d := some 7) (g := 8) (args := #[]) hA500 (by kernel_rfl) Try.call8 (law07_wakes_ok n y503 w hy503) ?_
  rintro e w504 ⟨rfl, ex505⟩
  refine ⟨_, rfl, fun a506 hA507 => ?_⟩
  refine wl_run 1 1 [0, 1, 2, 8] hA507 rfl (L' := [(0, .int .i64 p0), (1, .int .i64 p1), (2, .int .i64 p2), (8, .bool (!y503))]) (vs := []) (obl := []) (by kernel_rfl) trivial fun a508 hA509 => ?_
  refine wl_end ?_
  refine hK502 _ _ ?_
  refine c_cond law07_ModeOrder_c7 law07_ModeOrder_c8 (condX law07_ModeOrder_c6) (!y503) hA509 (by kernel_rfl) (by kernel_rfl) (by kernel_rfl) (fun hb510 => ?_) (fun hb510 => ?_)
  · replace h := ctrue hb510 h
    refine c_seq law07_ModeOrder_c9 law07_ModeOrder_c10 (by kernel_rfl) fun K511 hK511 => ?_
    refine c_region law07_ModeOrder_c9o 1 (by kernel_rfl) (by kernel_rfl) ?_
    refine wl_run 0 1 [6] hA509 rfl (L' := [(6, .bool false)]) (vs := []) (obl := []) (by kernel_rfl) trivial fun a512 hA513 => ?_
    refine wl_end ?_
    refine hK511 _ _ ?_
    refine c_ret (by kernel_rfl) ?_
    obtain rfl := someI h
    try simp only [Exit.then, Exit.inBlock]
    refine ret1 hA513 6 _ (by kernel_rfl) rfl rfl ?_
    exact ⟨rfl, ex505⟩
  · replace h := cfalse hb510 h
    refine c_skip (by kernel_rfl) ?_
    refine hK501 _ _ ?_
    refine c_seq law07_ModeOrder_c11 law07_ModeOrder_c12 (by kernel_rfl) fun K514 hK514 => ?_
    refine c_seq law07_ModeOrder_c13 law07_ModeOrder_c14 (by kernel_rfl) fun K515 hK515 => ?_
    refine c_region law07_ModeOrder_c13o 40 (by kernel_rfl) (by kernel_rfl) ?_
    refine wl_run 0 1 [0, 1, 2, 9] hA509 rfl (L' := [(0, .int .i64 p0), (1, .int .i64 p1), (2, .int .i64 p2), (9, .int .i64 p0)]) (vs := []) (obl := []) (by kernel_rfl) trivial fun a516 hA517 => ?_
    obtain ⟨y518, hy518, h⟩ := bindS h
    refine wl_call 1 rfl (d := some 10) (g := 18) (args := #[.int .i64 p0]) hA517 (by kernel_rfl) Try.call18 (mode_Check_ok n _ y518 w504 hy518) ?_
    rintro e w519 ⟨rfl, ex520⟩
    refine ⟨_, rfl, fun a521 hA522 => ?_⟩
    refine wl_run 2 2 [0, 1, 2, 12] hA522 rfl (L' := [(0, .int .i64 p0), (1, .int .i64 p1), (2, .int .i64 p2), (12, .bool (y518 == 0))]) (vs := []) (obl := []) (by kernel_rfl) trivial fun a523 hA524 => ?_
    refine wl_cut 9 rfl rfl fun K525 hK525 => ?_
    have JK525 : ∀ (p541 : Bool) (a538 : Act) (w537 : World), Ext w519 w537 → Has a538 71 [(0, .int .i64 p0), (1, .int .i64 p1), (2, .int .i64 p2), (17, .bool p541)] → law07_ModeOrder_j8 n p0 p1 p2 p541 = some r → K525 a538 w537 := by
      intro p541 a538 w537 ex540 hA539 h
      unfold law07_ModeOrder_j8 at h
      refine hK525 _ _ ?_
      refine wl_run 9 1 [0, 1, 2, 18] hA539 rfl (L' := [(0, .int .i64 p0), (1, .int .i64 p1), (2, .int .i64 p2), (18, .bool p541)]) (vs := []) (obl := []) (by kernel_rfl) trivial fun a542 hA543 => ?_
      refine wl_cut 24 rfl rfl fun K544 hK544 => ?_
      have JK544 : ∀ (p616 : Bool) (a613 : Act) (w612 : World), Ext w537 w612 → Has a613 71 [(0, .int .i64 p0), (1, .int .i64 p1), (2, .int .i64 p2), (32, .bool p616)] → law07_ModeOrder_j6 n p0 p1 p2 p616 = some r → K544 a613 w612 := by
        intro p616 a613 w612 ex615 hA614 h
        unfold law07_ModeOrder_j6 at h
        refine hK544 _ _ ?_
        refine wl_run 24 1 [0, 1, 2, 33] hA614 rfl (L' := [(0, .int .i64 p0), (1, .int .i64 p1), (2, .int .i64 p2), (33, .bool p616)]) (vs := []) (obl := []) (by kernel_rfl) trivial fun a617 hA618 => ?_
        refine wl_cut 40 rfl rfl fun K619 hK619 => ?_
        have JK619 : ∀ (p707 : Bool) (a704 : Act) (w703 : World), Ext w612 w703 → Has a704 71 [(0, .int .i64 p0), (1, .int .i64 p1), (2, .int .i64 p2), (48, .bool p707)] → law07_ModeOrder_j3 n p0 p1 p2 p707 = some r → K619 a704 w703 := by
          intro p707 a704 w703 ex706 hA705 h
          unfold law07_ModeOrder_j3 at h
          refine hK619 _ _ ?_
          refine wl_end ?_
          refine hK515 _ _ ?_
          refine c_cond law07_ModeOrder_c15 law07_ModeOrder_c16 (condX law07_ModeOrder_c14) p707 hA705 (by kernel_rfl) (by kernel_rfl) (by kernel_rfl) (fun hb708 => ?_) (fun hb708 => ?_)
          · replace h := ctrue hb708 h
            refine c_seq law07_ModeOrder_c17 law07_ModeOrder_c18 (by kernel_rfl) fun K709 hK709 => ?_
            refine c_region law07_ModeOrder_c17o 1 (by kernel_rfl) (by kernel_rfl) ?_
            refine wl_run 0 1 [6] hA705 rfl (L' := [(6, .bool false)]) (vs := []) (obl := []) (by kernel_rfl) trivial fun a710 hA711 => ?_
            refine wl_end ?_
            refine hK709 _ _ ?_
            refine c_ret (by kernel_rfl) ?_
            obtain rfl := someI h
            try simp only [Exit.then, Exit.inBlock]
            refine ret1 hA711 6 _ (by kernel_rfl) rfl rfl ?_
            exact ⟨rfl, (Ext.trans (Ext.trans (Ext.trans (Ext.trans ex505 ex520) ex540) ex615) ex706)⟩
          · replace h := cfalse hb708 h
            refine c_skip (by kernel_rfl) ?_
            refine hK514 _ _ ?_
            refine c_seq law07_ModeOrder_c19 law07_ModeOrder_c20 (by kernel_rfl) fun K712 hK712 => ?_
            refine c_seq law07_ModeOrder_c21 law07_ModeOrder_c22 (by kernel_rfl) fun K713 hK713 => ?_
            refine c_region law07_ModeOrder_c21o 7 (by kernel_rfl) (by kernel_rfl) ?_
            refine wl_run 0 2 [0, 1, 2, 49, 50] hA705 rfl (L' := [(0, .int .i64 p0), (1, .int .i64 p1), (2, .int .i64 p2), (49, .int .i64 p0), (50, .int .i64 p1)]) (vs := []) (obl := []) (by kernel_rfl) trivial fun a714 hA715 => ?_
            obtain ⟨y716, hy716, h⟩ := bindS h
            refine wl_call 2 rfl (d := some 51) (g := 10) (args := #[.int .i64 p0, .int .i64 p1]) hA715 (by kernel_rfl) Try.call10 (mode_Goes_ok n _ _ y716 w703 hy716) ?_
            rintro e w717 ⟨rfl, ex718⟩
            refine ⟨_, rfl, fun a719 hA720 => ?_⟩
            refine wl_run 3 2 [0, 1, 2, 51, 52, 53] hA720 rfl (L' := [(0, .int .i64 p0), (1, .int .i64 p1), (2, .int .i64 p2), (51, .bool y716), (52, .int .i64 p1), (53, .int .i64 p0)]) (vs := []) (obl := []) (by kernel_rfl) trivial fun a721 hA722 => ?_
            obtain ⟨y723, hy723, h⟩ := bindS h
            refine wl_call 5 rfl (d := some 54) (g := 10) (args := #[.int .i64 p1, .int .i64 p0]) hA722 (by kernel_rfl) Try.call10 (mode_Goes_ok n _ _ y723 w717 hy723) ?_
            rintro e w724 ⟨rfl, ex725⟩
            refine ⟨_, rfl, fun a726 hA727 => ?_⟩
            refine wl_run 6 1 [0, 1, 2, 55] hA727 rfl (L' := [(0, .int .i64 p0), (1, .int .i64 p1), (2, .int .i64 p2), (55, .bool (!(y716 == y723)))]) (vs := []) (obl := []) (by kernel_rfl) trivial fun a728 hA729 => ?_
            refine wl_end ?_
            refine hK713 _ _ ?_
            refine c_cond law07_ModeOrder_c23 law07_ModeOrder_c24 (condX law07_ModeOrder_c22) (!(y716 == y723)) hA729 (by kernel_rfl) (by kernel_rfl) (by kernel_rfl) (fun hb730 => ?_) (fun hb730 => ?_)
            · replace h := ctrue hb730 h
              refine c_seq law07_ModeOrder_c25 law07_ModeOrder_c26 (by kernel_rfl) fun K731 hK731 => ?_
              refine c_region law07_ModeOrder_c25o 1 (by kernel_rfl) (by kernel_rfl) ?_
              refine wl_run 0 1 [6] hA729 rfl (L' := [(6, .bool false)]) (vs := []) (obl := []) (by kernel_rfl) trivial fun a732 hA733 => ?_
              refine wl_end ?_
              refine hK731 _ _ ?_
              refine c_ret (by kernel_rfl) ?_
              obtain rfl := someI h
              try simp only [Exit.then, Exit.inBlock]
              refine ret1 hA733 6 _ (by kernel_rfl) rfl rfl ?_
              exact ⟨rfl, (Ext.trans (Ext.trans (Ext.trans (Ext.trans (Ext.trans (Ext.trans ex505 ex520) ex540) ex615) ex706) ex718) ex725)⟩
            · replace h := cfalse hb730 h
              refine c_skip (by kernel_rfl) ?_
              refine hK712 _ _ ?_
              refine c_seq law07_ModeOrder_c27 law07_ModeOrder_c28 (by kernel_rfl) fun K734 hK734 => ?_
              refine c_region law07_ModeOrder_c27o 16 (by kernel_rfl) (by kernel_rfl) ?_
              refine wl_run 0 2 [0, 1, 2, 56, 57] hA729 rfl (L' := [(0, .int .i64 p0), (1, .int .i64 p1), (2, .int .i64 p2), (56, .int .i64 p0), (57, .int .i64 p1)]) (vs := []) (obl := []) (by kernel_rfl) trivial fun a735 hA736 => ?_
              obtain ⟨y737, hy737, h⟩ := bindS h
              refine wl_call 2 rfl (d := some 58) (g := 12) (args := #[.int .i64 p0, .int .i64 p1]) hA736 (by kernel_rfl) Try.call12 (mode_Covers_ok n _ _ y737 w724 hy737) ?_
              rintro e w738 ⟨rfl, ex739⟩
              refine ⟨_, rfl, fun a740 hA741 => ?_⟩
              refine wl_run 3 2 [0, 1, 2, 60] hA741 rfl (L' := [(0, .int .i64 p0), (1, .int .i64 p1), (2, .int .i64 p2), (60, .bool (!y737))]) (vs := []) (obl := []) (by kernel_rfl) trivial fun a742 hA743 => ?_
              refine wl_cut 10 rfl rfl fun K744 hK744 => ?_
              have JK744 : ∀ (p760 : Bool) (a757 : Act) (w756 : World), Ext w738 w756 → Has a757 71 [(1, .int .i64 p1), (2, .int .i64 p2), (65, .bool p760)] → law07_ModeOrder_j2 n p1 p2 p760 = some r → K744 a757 w756 := by
                intro p760 a757 w756 ex759 hA758 h
                unfold law07_ModeOrder_j2 at h
                refine hK744 _ _ ?_
                refine wl_run 10 1 [1, 2, 66] hA758 rfl (L' := [(1, .int .i64 p1), (2, .int .i64 p2), (66, .bool p760)]) (vs := []) (obl := []) (by kernel_rfl) trivial fun a761 hA762 => ?_
                refine wl_cut 15 rfl rfl fun K763 hK763 => ?_
                have JK763 : ∀ (p779 : Bool) (a776 : Act) (w775 : World), Ext w756 w775 → Has a776 71 [(70, .bool p779)] → law07_ModeOrder_j1 n p779 = some r → K763 a776 w775 := by
                  intro p779 a776 w775 ex778 hA777 h
                  unfold law07_ModeOrder_j1 at h
                  refine hK763 _ _ ?_
                  refine wl_run 15 1 [6] hA777 rfl (L' := [(6, .bool p779)]) (vs := []) (obl := []) (by kernel_rfl) trivial fun a780 hA781 => ?_
                  refine wl_end ?_
                  refine hK734 _ _ ?_
                  refine c_ret (by kernel_rfl) ?_
                  obtain rfl := someI h
                  try simp only [Exit.then, Exit.inBlock]
                  refine ret1 hA781 6 _ (by kernel_rfl) rfl rfl ?_
                  exact ⟨rfl, (Ext.trans (Ext.trans (Ext.trans (Ext.trans (Ext.trans (Ext.trans (Ext.trans (Ext.trans (Ext.trans ex505 ex520) ex540) ex615) ex706) ex718) ex725) ex739) ex759) ex778)⟩
                obtain ⟨p779, hv783, h⟩ := bindS h
                cases hb782 : p760
                · have hA784 := Has.to (L' := [(1, .int .i64 p1), (2, .int .i64 p2), (66, .bool false)]) hA762 (by rw [hb782])
                  replace hv783 := cfalse hb782 hv783
                  have hk785 := h
                  clear h
                  have h := hv783
                  refine wl_run 11 2 [66, 67, 68] hA784 rfl (L' := [(66, .bool false), (67, .int .i64 p1), (68, .int .i64 p2)]) (vs := []) (obl := []) (by kernel_rfl) trivial fun a786 hA787 => ?_
                  obtain ⟨y788, hy788, h⟩ := bindS h
                  refine wl_call 13 rfl (d := some 69) (g := 10) (args := #[.int .i64 p1, .int .i64 p2]) hA787 (by kernel_rfl) Try.call10 (mode_Goes_ok n _ _ y788 w756 hy788) ?_
                  rintro e w789 ⟨rfl, ex790⟩
                  refine ⟨_, rfl, fun a791 hA792 => ?_⟩
                  refine wl_run 14 1 [70] hA792 rfl (L' := [(70, .bool y788)]) (vs := []) (obl := []) (by kernel_rfl) trivial fun a793 hA794 => ?_
                  refine wl_end ?_
                  obtain rfl := someI h
                  exact JK763 _ a793 w789 ex790 (Has.keep hA794 [70] rfl) hk785
                · have hA795 := Has.to (L' := [(1, .int .i64 p1), (2, .int .i64 p2), (66, .bool true)]) hA762 (by rw [hb782])
                  replace hv783 := ctrue hb782 hv783
                  have hk796 := h
                  clear h
                  have h := hv783
                  refine wl_run 11 4 [70] hA795 rfl (L' := [(70, .bool true)]) (vs := []) (obl := []) (by kernel_rfl) trivial fun a797 hA798 => ?_
                  refine wl_end ?_
                  obtain rfl := someI h
                  exact JK763 _ a797 w756 (Ext.refl _) (Has.keep hA798 [70] rfl) hk796
              obtain ⟨p760, hv800, h⟩ := bindS h
              cases hb799 : (!y737)
              · have hA801 := Has.to (L' := [(0, .int .i64 p0), (1, .int .i64 p1), (2, .int .i64 p2), (60, .bool false)]) hA743 (by rw [hb799])
                replace hv800 := cfalse hb799 hv800
                have hk802 := h
                clear h
                have h := hv800
                refine wl_run 5 2 [1, 2, 60, 61, 62] hA801 rfl (L' := [(1, .int .i64 p1), (2, .int .i64 p2), (60, .bool false), (61, .int .i64 p0), (62, .int .i64 p2)]) (vs := []) (obl := []) (by kernel_rfl) trivial fun a803 hA804 => ?_
                obtain ⟨y805, hy805, h⟩ := bindS h
                refine wl_call 7 rfl (d := some 63) (g := 10) (args := #[.int .i64 p0, .int .i64 p2]) hA804 (by kernel_rfl) Try.call10 (mode_Goes_ok n _ _ y805 w738 hy805) ?_
                rintro e w806 ⟨rfl, ex807⟩
                refine ⟨_, rfl, fun a808 hA809 => ?_⟩
                refine wl_run 8 2 [1, 2, 65] hA809 rfl (L' := [(1, .int .i64 p1), (2, .int .i64 p2), (65, .bool (!y805))]) (vs := []) (obl := []) (by kernel_rfl) trivial fun a810 hA811 => ?_
                refine wl_end ?_
                obtain rfl := someI h
                exact JK744 _ a810 w806 ex807 (Has.keep hA811 [1, 2, 65] rfl) hk802
              · have hA812 := Has.to (L' := [(0, .int .i64 p0), (1, .int .i64 p1), (2, .int .i64 p2), (60, .bool true)]) hA743 (by rw [hb799])
                replace hv800 := ctrue hb799 hv800
                have hk813 := h
                clear h
                have h := hv800
                refine wl_run 5 5 [1, 2, 65] hA812 rfl (L' := [(1, .int .i64 p1), (2, .int .i64 p2), (65, .bool true)]) (vs := []) (obl := []) (by kernel_rfl) trivial fun a814 hA815 => ?_
                refine wl_end ?_
                obtain rfl := someI h
                exact JK744 _ a814 w738 (Ext.refl _) (Has.keep hA815 [1, 2, 65] rfl) hk813
        obtain ⟨p707, hv817, h⟩ := bindS h
        cases hb816 : p616
        · have hA818 := Has.to (L' := [(0, .int .i64 p0), (1, .int .i64 p1), (2, .int .i64 p2), (33, .bool false)]) hA618 (by rw [hb816])
          replace hv817 := cfalse hb816 hv817
          have hk819 := h
          clear h
          have h := hv817
          refine wl_run 25 2 [0, 1, 2, 33, 34, 35] hA818 rfl (L' := [(0, .int .i64 p0), (1, .int .i64 p1), (2, .int .i64 p2), (33, .bool false), (34, .int .i64 p0), (35, .int .i64 p1)]) (vs := []) (obl := []) (by kernel_rfl) trivial fun a820 hA821 => ?_
          obtain ⟨y822, hy822, h⟩ := bindS h
          refine wl_call 27 rfl (d := some 36) (g := 12) (args := #[.int .i64 p0, .int .i64 p1]) hA821 (by kernel_rfl) Try.call12 (mode_Covers_ok n _ _ y822 w612 hy822) ?_
          rintro e w823 ⟨rfl, ex824⟩
          refine ⟨_, rfl, fun a825 hA826 => ?_⟩
          refine wl_run 28 1 [0, 1, 2, 33, 37] hA826 rfl (L' := [(0, .int .i64 p0), (1, .int .i64 p1), (2, .int .i64 p2), (33, .bool false), (37, .bool y822)]) (vs := []) (obl := []) (by kernel_rfl) trivial fun a827 hA828 => ?_
          refine wl_cut 33 rfl rfl fun K829 hK829 => ?_
          have JK829 : ∀ (p845 : Bool) (a842 : Act) (w841 : World), Ext w823 w841 → Has a842 71 [(0, .int .i64 p0), (1, .int .i64 p1), (2, .int .i64 p2), (33, .bool false), (41, .bool p845)] → law07_ModeOrder_j5 n p0 p2 p845 = some p707 → K829 a842 w841 := by
            intro p845 a842 w841 ex844 hA843 h
            unfold law07_ModeOrder_j5 at h
            refine hK829 _ _ ?_
            refine wl_run 33 1 [0, 1, 2, 33, 42] hA843 rfl (L' := [(0, .int .i64 p0), (1, .int .i64 p1), (2, .int .i64 p2), (33, .bool false), (42, .bool p845)]) (vs := []) (obl := []) (by kernel_rfl) trivial fun a846 hA847 => ?_
            refine wl_cut 39 rfl rfl fun K848 hK848 => ?_
            have JK848 : ∀ (p864 : Bool) (a861 : Act) (w860 : World), Ext w841 w860 → Has a861 71 [(0, .int .i64 p0), (1, .int .i64 p1), (2, .int .i64 p2), (33, .bool false), (47, .bool p864)] → law07_ModeOrder_j4 n p864 = some p707 → K848 a861 w860 := by
              intro p864 a861 w860 ex863 hA862 h
              unfold law07_ModeOrder_j4 at h
              refine hK848 _ _ ?_
              refine wl_run 39 1 [0, 1, 2, 48] hA862 rfl (L' := [(0, .int .i64 p0), (1, .int .i64 p1), (2, .int .i64 p2), (48, .bool p864)]) (vs := []) (obl := []) (by kernel_rfl) trivial fun a865 hA866 => ?_
              refine wl_end ?_
              obtain rfl := someI h
              exact JK619 _ a865 w860 (Ext.trans (Ext.trans ex824 ex844) ex863) (Has.keep hA866 [0, 1, 2, 48] rfl) hk819
            obtain ⟨p864, hv868, h⟩ := bindS h
            cases hb867 : p845
            · have hA869 := Has.to (L' := [(0, .int .i64 p0), (1, .int .i64 p1), (2, .int .i64 p2), (33, .bool false), (42, .bool false)]) hA847 (by rw [hb867])
              replace hv868 := cfalse hb867 hv868
              have hk870 := h
              clear h
              have h := hv868
              refine wl_run 34 5 [0, 1, 2, 33, 47] hA869 rfl (L' := [(0, .int .i64 p0), (1, .int .i64 p1), (2, .int .i64 p2), (33, .bool false), (47, .bool false)]) (vs := []) (obl := []) (by kernel_rfl) trivial fun a871 hA872 => ?_
              refine wl_end ?_
              obtain rfl := someI h
              exact JK848 _ a871 w841 (Ext.refl _) (Has.keep hA872 [0, 1, 2, 33, 47] rfl) hk870
            · have hA873 := Has.to (L' := [(0, .int .i64 p0), (1, .int .i64 p1), (2, .int .i64 p2), (33, .bool false), (42, .bool true)]) hA847 (by rw [hb867])
              replace hv868 := ctrue hb867 hv868
              have hk874 := h
              clear h
              have h := hv868
              refine wl_run 34 2 [0, 1, 2, 33, 42, 43, 44] hA873 rfl (L' := [(0, .int .i64 p0), (1, .int .i64 p1), (2, .int .i64 p2), (33, .bool false), (42, .bool true), (43, .int .i64 p0), (44, .int .i64 p2)]) (vs := []) (obl := []) (by kernel_rfl) trivial fun a875 hA876 => ?_
              obtain ⟨y877, hy877, h⟩ := bindS h
              refine wl_call 36 rfl (d := some 45) (g := 12) (args := #[.int .i64 p0, .int .i64 p2]) hA876 (by kernel_rfl) Try.call12 (mode_Covers_ok n _ _ y877 w841 hy877) ?_
              rintro e w878 ⟨rfl, ex879⟩
              refine ⟨_, rfl, fun a880 hA881 => ?_⟩
              refine wl_run 37 2 [0, 1, 2, 33, 47] hA881 rfl (L' := [(0, .int .i64 p0), (1, .int .i64 p1), (2, .int .i64 p2), (33, .bool false), (47, .bool (!y877))]) (vs := []) (obl := []) (by kernel_rfl) trivial fun a882 hA883 => ?_
              refine wl_end ?_
              obtain rfl := someI h
              exact JK848 _ a882 w878 ex879 (Has.keep hA883 [0, 1, 2, 33, 47] rfl) hk874
          obtain ⟨p845, hv885, h⟩ := bindS h
          cases hb884 : y822
          · have hA886 := Has.to (L' := [(0, .int .i64 p0), (1, .int .i64 p1), (2, .int .i64 p2), (33, .bool false), (37, .bool false)]) hA828 (by rw [hb884])
            replace hv885 := cfalse hb884 hv885
            have hk887 := h
            clear h
            have h := hv885
            refine wl_run 29 4 [0, 1, 2, 33, 41] hA886 rfl (L' := [(0, .int .i64 p0), (1, .int .i64 p1), (2, .int .i64 p2), (33, .bool false), (41, .bool false)]) (vs := []) (obl := []) (by kernel_rfl) trivial fun a888 hA889 => ?_
            refine wl_end ?_
            obtain rfl := someI h
            exact JK829 _ a888 w823 (Ext.refl _) (Has.keep hA889 [0, 1, 2, 33, 41] rfl) hk887
          · have hA890 := Has.to (L' := [(0, .int .i64 p0), (1, .int .i64 p1), (2, .int .i64 p2), (33, .bool false), (37, .bool true)]) hA828 (by rw [hb884])
            replace hv885 := ctrue hb884 hv885
            have hk891 := h
            clear h
            have h := hv885
            refine wl_run 29 2 [0, 1, 2, 33, 37, 38, 39] hA890 rfl (L' := [(0, .int .i64 p0), (1, .int .i64 p1), (2, .int .i64 p2), (33, .bool false), (37, .bool true), (38, .int .i64 p1), (39, .int .i64 p2)]) (vs := []) (obl := []) (by kernel_rfl) trivial fun a892 hA893 => ?_
            obtain ⟨y894, hy894, h⟩ := bindS h
            refine wl_call 31 rfl (d := some 40) (g := 12) (args := #[.int .i64 p1, .int .i64 p2]) hA893 (by kernel_rfl) Try.call12 (mode_Covers_ok n _ _ y894 w823 hy894) ?_
            rintro e w895 ⟨rfl, ex896⟩
            refine ⟨_, rfl, fun a897 hA898 => ?_⟩
            refine wl_run 32 1 [0, 1, 2, 33, 41] hA898 rfl (L' := [(0, .int .i64 p0), (1, .int .i64 p1), (2, .int .i64 p2), (33, .bool false), (41, .bool y894)]) (vs := []) (obl := []) (by kernel_rfl) trivial fun a899 hA900 => ?_
            refine wl_end ?_
            obtain rfl := someI h
            exact JK829 _ a899 w895 ex896 (Has.keep hA900 [0, 1, 2, 33, 41] rfl) hk891
        · have hA901 := Has.to (L' := [(0, .int .i64 p0), (1, .int .i64 p1), (2, .int .i64 p2), (33, .bool true)]) hA618 (by rw [hb816])
          replace hv817 := ctrue hb816 hv817
          have hk902 := h
          clear h
          have h := hv817
          refine wl_run 25 15 [0, 1, 2, 48] hA901 rfl (L' := [(0, .int .i64 p0), (1, .int .i64 p1), (2, .int .i64 p2), (48, .bool true)]) (vs := []) (obl := []) (by kernel_rfl) trivial fun a903 hA904 => ?_
          refine wl_end ?_
          obtain rfl := someI h
          exact JK619 _ a903 w612 (Ext.refl _) (Has.keep hA904 [0, 1, 2, 48] rfl) hk902
      obtain ⟨p616, hv906, h⟩ := bindS h
      cases hb905 : p541
      · have hA907 := Has.to (L' := [(0, .int .i64 p0), (1, .int .i64 p1), (2, .int .i64 p2), (18, .bool false)]) hA543 (by rw [hb905])
        replace hv906 := cfalse hb905 hv906
        have hk908 := h
        clear h
        have h := hv906
        refine wl_run 10 2 [0, 1, 2, 18, 19, 20] hA907 rfl (L' := [(0, .int .i64 p0), (1, .int .i64 p1), (2, .int .i64 p2), (18, .bool false), (19, .int .i64 p0), (20, .int .i64 p1)]) (vs := []) (obl := []) (by kernel_rfl) trivial fun a909 hA910 => ?_
        obtain ⟨y911, hy911, h⟩ := bindS h
        refine wl_call 12 rfl (d := some 21) (g := 12) (args := #[.int .i64 p0, .int .i64 p1]) hA910 (by kernel_rfl) Try.call12 (mode_Covers_ok n _ _ y911 w537 hy911) ?_
        rintro e w912 ⟨rfl, ex913⟩
        refine ⟨_, rfl, fun a914 hA915 => ?_⟩
        refine wl_run 13 1 [0, 1, 2, 18, 22] hA915 rfl (L' := [(0, .int .i64 p0), (1, .int .i64 p1), (2, .int .i64 p2), (18, .bool false), (22, .bool y911)]) (vs := []) (obl := []) (by kernel_rfl) trivial fun a916 hA917 => ?_
        refine wl_cut 18 rfl rfl fun K918 hK918 => ?_
        have JK918 : ∀ (p934 : Bool) (a931 : Act) (w930 : World), Ext w912 w930 → Has a931 71 [(0, .int .i64 p0), (1, .int .i64 p1), (2, .int .i64 p2), (18, .bool false), (26, .bool p934)] → law07_ModeOrder_j7 n p0 p1 p934 = some p616 → K918 a931 w930 := by
          intro p934 a931 w930 ex933 hA932 h
          unfold law07_ModeOrder_j7 at h
          refine hK918 _ _ ?_
          refine wl_run 18 1 [0, 1, 2, 18, 27] hA932 rfl (L' := [(0, .int .i64 p0), (1, .int .i64 p1), (2, .int .i64 p2), (18, .bool false), (27, .bool p934)]) (vs := []) (obl := []) (by kernel_rfl) trivial fun a935 hA936 => ?_
          refine wl_cut 23 rfl rfl fun K937 hK937 => ?_
          have JK937 : ∀ (a943 : Act), Has a943 71 [(0, .int .i64 p0), (1, .int .i64 p1), (2, .int .i64 p2), (18, .bool false), (31, .bool (p934 && (p0 != p1)))] → K937 a943 w930 := by
            intro a943 hA944
            refine hK937 _ _ ?_
            refine wl_run 23 1 [0, 1, 2, 32] hA944 rfl (L' := [(0, .int .i64 p0), (1, .int .i64 p1), (2, .int .i64 p2), (32, .bool (p934 && (p0 != p1)))]) (vs := []) (obl := []) (by kernel_rfl) trivial fun a946 hA947 => ?_
            refine wl_end ?_
            obtain rfl := someI h
            exact JK544 _ a946 w930 (Ext.trans ex913 ex933) (Has.keep hA947 [0, 1, 2, 32] rfl) hk908
          cases hb948 : p934
          · have hA949 := Has.to (L' := [(0, .int .i64 p0), (1, .int .i64 p1), (2, .int .i64 p2), (18, .bool false), (27, .bool false)]) hA936 (by rw [hb948])
            refine wl_run 19 4 [0, 1, 2, 18, 31] hA949 rfl (L' := [(0, .int .i64 p0), (1, .int .i64 p1), (2, .int .i64 p2), (18, .bool false), (31, .bool false)]) (vs := []) (obl := []) (by kernel_rfl) trivial fun a951 hA952 => ?_
            refine wl_end ?_
            exact JK937 a951 (Has.to (Has.keep hA952 [0, 1, 2, 18, 31] rfl) (by rw [hb948]; rfl))
          · have hA953 := Has.to (L' := [(0, .int .i64 p0), (1, .int .i64 p1), (2, .int .i64 p2), (18, .bool false), (27, .bool true)]) hA936 (by rw [hb948])
            refine wl_run 19 4 [0, 1, 2, 18, 31] hA953 rfl (L' := [(0, .int .i64 p0), (1, .int .i64 p1), (2, .int .i64 p2), (18, .bool false), (31, .bool (p0 != p1))]) (vs := []) (obl := []) (by kernel_rfl) trivial fun a955 hA956 => ?_
            refine wl_end ?_
            exact JK937 a955 (Has.to (Has.keep hA956 [0, 1, 2, 18, 31] rfl) (by rw [hb948]; rfl))
        obtain ⟨p934, hv958, h⟩ := bindS h
        cases hb957 : y911
        · have hA959 := Has.to (L' := [(0, .int .i64 p0), (1, .int .i64 p1), (2, .int .i64 p2), (18, .bool false), (22, .bool false)]) hA917 (by rw [hb957])
          replace hv958 := cfalse hb957 hv958
          have hk960 := h
          clear h
          have h := hv958
          refine wl_run 14 4 [0, 1, 2, 18, 26] hA959 rfl (L' := [(0, .int .i64 p0), (1, .int .i64 p1), (2, .int .i64 p2), (18, .bool false), (26, .bool false)]) (vs := []) (obl := []) (by kernel_rfl) trivial fun a961 hA962 => ?_
          refine wl_end ?_
          obtain rfl := someI h
          exact JK918 _ a961 w912 (Ext.refl _) (Has.keep hA962 [0, 1, 2, 18, 26] rfl) hk960
        · have hA963 := Has.to (L' := [(0, .int .i64 p0), (1, .int .i64 p1), (2, .int .i64 p2), (18, .bool false), (22, .bool true)]) hA917 (by rw [hb957])
          replace hv958 := ctrue hb957 hv958
          have hk964 := h
          clear h
          have h := hv958
          refine wl_run 14 2 [0, 1, 2, 18, 22, 23, 24] hA963 rfl (L' := [(0, .int .i64 p0), (1, .int .i64 p1), (2, .int .i64 p2), (18, .bool false), (22, .bool true), (23, .int .i64 p1), (24, .int .i64 p0)]) (vs := []) (obl := []) (by kernel_rfl) trivial fun a965 hA966 => ?_
          obtain ⟨y967, hy967, h⟩ := bindS h
          refine wl_call 16 rfl (d := some 25) (g := 12) (args := #[.int .i64 p1, .int .i64 p0]) hA966 (by kernel_rfl) Try.call12 (mode_Covers_ok n _ _ y967 w912 hy967) ?_
          rintro e w968 ⟨rfl, ex969⟩
          refine ⟨_, rfl, fun a970 hA971 => ?_⟩
          refine wl_run 17 1 [0, 1, 2, 18, 26] hA971 rfl (L' := [(0, .int .i64 p0), (1, .int .i64 p1), (2, .int .i64 p2), (18, .bool false), (26, .bool y967)]) (vs := []) (obl := []) (by kernel_rfl) trivial fun a972 hA973 => ?_
          refine wl_end ?_
          obtain rfl := someI h
          exact JK918 _ a972 w968 ex969 (Has.keep hA973 [0, 1, 2, 18, 26] rfl) hk964
      · have hA974 := Has.to (L' := [(0, .int .i64 p0), (1, .int .i64 p1), (2, .int .i64 p2), (18, .bool true)]) hA543 (by rw [hb905])
        replace hv906 := ctrue hb905 hv906
        have hk975 := h
        clear h
        have h := hv906
        refine wl_run 10 14 [0, 1, 2, 32] hA974 rfl (L' := [(0, .int .i64 p0), (1, .int .i64 p1), (2, .int .i64 p2), (32, .bool true)]) (vs := []) (obl := []) (by kernel_rfl) trivial fun a976 hA977 => ?_
        refine wl_end ?_
        obtain rfl := someI h
        exact JK544 _ a976 w537 (Ext.refl _) (Has.keep hA977 [0, 1, 2, 32] rfl) hk975
    obtain ⟨p541, hv979, h⟩ := bindS h
    cases hb978 : (y518 == 0)
    · have hA980 := Has.to (L' := [(0, .int .i64 p0), (1, .int .i64 p1), (2, .int .i64 p2), (12, .bool false)]) hA524 (by rw [hb978])
      replace hv979 := cfalse hb978 hv979
      have hk981 := h
      clear h
      have h := hv979
      refine wl_run 4 5 [0, 1, 2, 17] hA980 rfl (L' := [(0, .int .i64 p0), (1, .int .i64 p1), (2, .int .i64 p2), (17, .bool false)]) (vs := []) (obl := []) (by kernel_rfl) trivial fun a982 hA983 => ?_
      refine wl_end ?_
      obtain rfl := someI h
      exact JK525 _ a982 w519 (Ext.refl _) (Has.keep hA983 [0, 1, 2, 17] rfl) hk981
    · have hA984 := Has.to (L' := [(0, .int .i64 p0), (1, .int .i64 p1), (2, .int .i64 p2), (12, .bool true)]) hA524 (by rw [hb978])
      replace hv979 := ctrue hb978 hv979
      have hk985 := h
      clear h
      have h := hv979
      refine wl_run 4 2 [0, 1, 2, 12, 13, 14] hA984 rfl (L' := [(0, .int .i64 p0), (1, .int .i64 p1), (2, .int .i64 p2), (12, .bool true), (13, .int .i64 p0), (14, .int .i64 p0)]) (vs := []) (obl := []) (by kernel_rfl) trivial fun a986 hA987 => ?_
      obtain ⟨y988, hy988, h⟩ := bindS h
      refine wl_call 6 rfl (d := some 15) (g := 12) (args := #[.int .i64 p0, .int .i64 p0]) hA987 (by kernel_rfl) Try.call12 (mode_Covers_ok n _ _ y988 w519 hy988) ?_
      rintro e w989 ⟨rfl, ex990⟩
      refine ⟨_, rfl, fun a991 hA992 => ?_⟩
      refine wl_run 7 2 [0, 1, 2, 17] hA992 rfl (L' := [(0, .int .i64 p0), (1, .int .i64 p1), (2, .int .i64 p2), (17, .bool (!y988))]) (vs := []) (obl := []) (by kernel_rfl) trivial fun a993 hA994 => ?_
      refine wl_end ?_
      obtain rfl := someI h
      exact JK525 _ a993 w989 ex990 (Has.keep hA994 [0, 1, 2, 17] rfl) hk985

/-! bursary mode.names -/
def mode_names (n : Nat)  : Option (List ByteArray) :=
  some ([(ByteArray.mk #[45]), (ByteArray.mk #[73, 83]), (ByteArray.mk #[73, 88]), (ByteArray.mk #[83]), (ByteArray.mk #[83, 73, 88]), (ByteArray.mk #[88]), (ByteArray.mk #[69])] : List ByteArray)
noncomputable def mode_names_c0 : Code := bodyOf Try.f30
noncomputable def mode_names_c1 : Code := seqL mode_names_c0
noncomputable def mode_names_c2 : Code := seqR mode_names_c0
noncomputable def mode_names_c1o : Array Oper := regO mode_names_c1
noncomputable def mode_names_c3 : Code := seqL mode_names_c2
noncomputable def mode_names_c4 : Code := seqR mode_names_c2
noncomputable def mode_names_c3o : Array Oper := regO mode_names_c3
theorem mode_names_ok (n : Nat)  (r : (List ByteArray)) (w : World)  (h : mode_names n  = some r) :
    Calls Try.prog 30 #[] w fun e w' => ∃ (a0 : Option Addr) (c0 : Nat), e = .returned (.slice a0 r.length c0) ∧ RS (G := (Flat.toGoT flat_str)) w' a0 c0 r ∧ Ext w w' := by
  unfold mode_names at h
  refine enter 2 Try.func30 rfl (by kernel_rfl) (by simp) fun a hA => ?_
  change mode_names_c0.wp _ _ _ _
  refine c_seq mode_names_c1 mode_names_c2 (by kernel_rfl) fun K14 hK14 => ?_
  refine c_region mode_names_c1o 1 (by kernel_rfl) (by kernel_rfl) ?_
  refine wl_run 0 1 [] hA rfl (L' := []) (vs := []) (obl := []) (by kernel_rfl) trivial fun a15 hA16 => ?_
  refine wl_end ?_
  refine hK14 _ _ ?_
  refine c_seq mode_names_c3 mode_names_c4 (by kernel_rfl) fun K17 hK17 => ?_
  refine c_region mode_names_c3o 2 (by kernel_rfl) (by kernel_rfl) ?_
  refine wl_new 0 rfl hA16 (d := 1) (m := (some 7)) (cs := [.string (ByteArray.mk #[45]), .string (ByteArray.mk #[73, 83]), .string (ByteArray.mk #[73, 88]), .string (ByteArray.mk #[83]), .string (ByteArray.mk #[83, 73, 88]), .string (ByteArray.mk #[88]), .string (ByteArray.mk #[69])]) (T := 9) (by kernel_rfl) rfl fun b18 a21 w20 nb19 hA22 => ?_
  have ex23 := NewB.ext nb19
  have hr24 : RS (G := (Flat.toGoT flat_str)) w20 (some ⟨b18, 0, none⟩) 7 ([(ByteArray.mk #[45]), (ByteArray.mk #[73, 83]), (ByteArray.mk #[73, 88]), (ByteArray.mk #[83]), (ByteArray.mk #[83, 73, 88]), (ByteArray.mk #[88]), (ByteArray.mk #[69])] : List ByteArray) := RS.ofCells (F := flat_str) (Own.cells (NewB.own nb19)) (Nat.le_refl _)
  refine wl_run 1 1 [0] hA22 rfl (L' := [(0, .slice (some ⟨b18, 0, none⟩) ([(ByteArray.mk #[45]), (ByteArray.mk #[73, 83]), (ByteArray.mk #[73, 88]), (ByteArray.mk #[83]), (ByteArray.mk #[83, 73, 88]), (ByteArray.mk #[88]), (ByteArray.mk #[69])] : List ByteArray).length 7)]) (vs := []) (obl := []) (by kernel_rfl) trivial fun a25 hA26 => ?_
  refine wl_end ?_
  refine hK17 _ _ ?_
  refine c_ret (by kernel_rfl) ?_
  obtain rfl := someI h
  try simp only [Exit.then, Exit.inBlock]
  refine ret1 hA26 0 _ (by kernel_rfl) rfl rfl ?_
  exact ⟨(some ⟨b18, 0, none⟩), 7, rfl, hr24, ex23⟩

/-! bursary mode.Text -/
def mode_Text (n : Nat) (p0 : Int) : Option ByteArray :=
  (mode_is n p0).bind fun y39 =>
  cond (!y39)
    (some (ByteArray.mk #[]))
    ((mode_names n).bind fun y51 =>
    (idx y51 p0).bind fun x59 =>
    some x59)
noncomputable def mode_Text_c0 : Code := bodyOf Try.f21
noncomputable def mode_Text_c1 : Code := seqL mode_Text_c0
noncomputable def mode_Text_c2 : Code := seqR mode_Text_c0
noncomputable def mode_Text_c1o : Array Oper := regO mode_Text_c1
noncomputable def mode_Text_c3 : Code := seqL mode_Text_c2
noncomputable def mode_Text_c4 : Code := seqR mode_Text_c2
noncomputable def mode_Text_c5 : Code := seqL mode_Text_c3
noncomputable def mode_Text_c6 : Code := seqR mode_Text_c3
noncomputable def mode_Text_c5o : Array Oper := regO mode_Text_c5
noncomputable def mode_Text_c7 : Code := condT mode_Text_c6
noncomputable def mode_Text_c8 : Code := condE mode_Text_c6
noncomputable def mode_Text_c9 : Code := seqL mode_Text_c7
noncomputable def mode_Text_c10 : Code := seqR mode_Text_c7
noncomputable def mode_Text_c9o : Array Oper := regO mode_Text_c9
noncomputable def mode_Text_c11 : Code := seqL mode_Text_c4
noncomputable def mode_Text_c12 : Code := seqR mode_Text_c4
noncomputable def mode_Text_c11o : Array Oper := regO mode_Text_c11
theorem mode_Text_ok (n : Nat) (p0 : Int) (r : ByteArray) (w : World)  (h : mode_Text n p0 = some r) :
    Calls Try.prog 21 #[.int .i64 p0] w fun e w' => e = .returned (.string r) ∧ Ext w w' := by
  unfold mode_Text at h
  refine enter 10 Try.func21 rfl (by kernel_rfl) (by simp) fun a hA => ?_
  change mode_Text_c0.wp _ _ _ _
  refine c_seq mode_Text_c1 mode_Text_c2 (by kernel_rfl) fun K32 hK32 => ?_
  refine c_region mode_Text_c1o 1 (by kernel_rfl) (by kernel_rfl) ?_
  refine wl_run 0 1 [0] hA rfl (L' := [(0, .int .i64 p0)]) (vs := []) (obl := []) (by kernel_rfl) trivial fun a33 hA34 => ?_
  refine wl_end ?_
  refine hK32 _ _ ?_
  refine c_seq mode_Text_c3 mode_Text_c4 (by kernel_rfl) fun K35 hK35 => ?_
  refine c_seq mode_Text_c5 mode_Text_c6 (by kernel_rfl) fun K36 hK36 => ?_
  refine c_region mode_Text_c5o 3 (by kernel_rfl) (by kernel_rfl) ?_
  refine wl_run 0 1 [0, 3] hA34 rfl (L' := [(0, .int .i64 p0), (3, .int .i64 p0)]) (vs := []) (obl := []) (by kernel_rfl) trivial fun a37 hA38 => ?_
  obtain ⟨y39, hy39, h⟩ := bindS h
  refine wl_call 1 rfl (d := some 4) (g := 24) (args := #[.int .i64 p0]) hA38 (by kernel_rfl) Try.call24 (mode_is_ok n _ y39 w hy39) ?_
  rintro e w40 ⟨rfl, ex41⟩
  refine ⟨_, rfl, fun a42 hA43 => ?_⟩
  refine wl_run 2 1 [0, 5] hA43 rfl (L' := [(0, .int .i64 p0), (5, .bool (!y39))]) (vs := []) (obl := []) (by kernel_rfl) trivial fun a44 hA45 => ?_
  refine wl_end ?_
  refine hK36 _ _ ?_
  refine c_cond mode_Text_c7 mode_Text_c8 (condX mode_Text_c6) (!y39) hA45 (by kernel_rfl) (by kernel_rfl) (by kernel_rfl) (fun hb46 => ?_) (fun hb46 => ?_)
  · replace h := ctrue hb46 h
    refine c_seq mode_Text_c9 mode_Text_c10 (by kernel_rfl) fun K47 hK47 => ?_
    refine c_region mode_Text_c9o 1 (by kernel_rfl) (by kernel_rfl) ?_
    refine wl_run 0 1 [2] hA45 rfl (L' := [(2, .string (ByteArray.mk #[]))]) (vs := []) (obl := []) (by kernel_rfl) trivial fun a48 hA49 => ?_
    refine wl_end ?_
    refine hK47 _ _ ?_
    refine c_ret (by kernel_rfl) ?_
    obtain rfl := someI h
    try simp only [Exit.then, Exit.inBlock]
    refine ret1 hA49 2 _ (by kernel_rfl) rfl rfl ?_
    exact ⟨rfl, ex41⟩
  · replace h := cfalse hb46 h
    refine c_skip (by kernel_rfl) ?_
    refine hK35 _ _ ?_
    refine c_seq mode_Text_c11 mode_Text_c12 (by kernel_rfl) fun K50 hK50 => ?_
    refine c_region mode_Text_c11o 5 (by kernel_rfl) (by kernel_rfl) ?_
    obtain ⟨y51, hy51, h⟩ := bindS h
    refine wl_call 0 rfl (d := some 6) (g := 30) (args := #[]) hA45 (by kernel_rfl) Try.call30 (mode_names_ok n y51 w40 hy51) ?_
    rintro e w52 ⟨a56, c57, rfl, hr58, ex53⟩
    refine ⟨_, rfl, fun a54 hA55 => ?_⟩
    obtain ⟨x59, hx59, h⟩ := bindS h
    have hi60 := RS.fidx (F := flat_str) hr58 hx59
    refine wl_run 1 4 [2] hA55 rfl (L' := [(2, .string x59)]) (vs := [[.string x59]]) (obl := [fun w => CellsAt w (Addr.add (baseOf a56) (Int.toNat p0 * 1)) [.string x59], fun _ => Inb a56 y51.length p0]) (by kernel_rfl) ⟨hi60.2, hi60.1, trivial⟩ fun a61 hA62 => ?_
    refine wl_end ?_
    refine hK50 _ _ ?_
    refine c_ret (by kernel_rfl) ?_
    obtain rfl := someI h
    try simp only [Exit.then, Exit.inBlock]
    refine ret1 hA62 2 _ (by kernel_rfl) rfl rfl ?_
    exact ⟨rfl, (Ext.trans ex41 ex53)⟩

/-! bursary bursaryref07.Name -/
def ref07_Name (n : Nat) (p0 : Int) : Option ByteArray :=
  cond (p0 == 0)
    (some (ByteArray.mk #[45]))
    (cond (p0 == 1)
      (some (ByteArray.mk #[73, 83]))
      (cond (p0 == 2)
        (some (ByteArray.mk #[73, 88]))
        (cond (p0 == 3)
          (some (ByteArray.mk #[83]))
          (cond (p0 == 4)
            (some (ByteArray.mk #[83, 73, 88]))
            (cond (p0 == 5)
              (some (ByteArray.mk #[88]))
              (cond (p0 == 6)
                (some (ByteArray.mk #[69]))
                (some (ByteArray.mk #[]))))))))
noncomputable def ref07_Name_c0 : Code := bodyOf Try.f22
noncomputable def ref07_Name_c1 : Code := seqL ref07_Name_c0
noncomputable def ref07_Name_c2 : Code := seqR ref07_Name_c0
noncomputable def ref07_Name_c1o : Array Oper := regO ref07_Name_c1
noncomputable def ref07_Name_c3 : Code := seqL ref07_Name_c2
noncomputable def ref07_Name_c4 : Code := seqR ref07_Name_c2
noncomputable def ref07_Name_c5 : Code := seqL ref07_Name_c3
noncomputable def ref07_Name_c6 : Code := seqR ref07_Name_c3
noncomputable def ref07_Name_c5o : Array Oper := regO ref07_Name_c5
noncomputable def ref07_Name_c7 : Code := blkB ref07_Name_c6
noncomputable def ref07_Name_c8 : Code := seqL ref07_Name_c7
noncomputable def ref07_Name_c9 : Code := seqR ref07_Name_c7
noncomputable def ref07_Name_c8o : Array Oper := regO ref07_Name_c8
noncomputable def ref07_Name_c10 : Code := condT ref07_Name_c9
noncomputable def ref07_Name_c11 : Code := condE ref07_Name_c9
noncomputable def ref07_Name_c12 : Code := seqL ref07_Name_c10
noncomputable def ref07_Name_c13 : Code := seqR ref07_Name_c10
noncomputable def ref07_Name_c12o : Array Oper := regO ref07_Name_c12
noncomputable def ref07_Name_c14 : Code := seqL ref07_Name_c11
noncomputable def ref07_Name_c15 : Code := seqR ref07_Name_c11
noncomputable def ref07_Name_c14o : Array Oper := regO ref07_Name_c14
noncomputable def ref07_Name_c16 : Code := condT ref07_Name_c15
noncomputable def ref07_Name_c17 : Code := condE ref07_Name_c15
noncomputable def ref07_Name_c18 : Code := seqL ref07_Name_c16
noncomputable def ref07_Name_c19 : Code := seqR ref07_Name_c16
noncomputable def ref07_Name_c18o : Array Oper := regO ref07_Name_c18
noncomputable def ref07_Name_c20 : Code := seqL ref07_Name_c17
noncomputable def ref07_Name_c21 : Code := seqR ref07_Name_c17
noncomputable def ref07_Name_c20o : Array Oper := regO ref07_Name_c20
noncomputable def ref07_Name_c22 : Code := condT ref07_Name_c21
noncomputable def ref07_Name_c23 : Code := condE ref07_Name_c21
noncomputable def ref07_Name_c24 : Code := seqL ref07_Name_c22
noncomputable def ref07_Name_c25 : Code := seqR ref07_Name_c22
noncomputable def ref07_Name_c24o : Array Oper := regO ref07_Name_c24
noncomputable def ref07_Name_c26 : Code := seqL ref07_Name_c23
noncomputable def ref07_Name_c27 : Code := seqR ref07_Name_c23
noncomputable def ref07_Name_c26o : Array Oper := regO ref07_Name_c26
noncomputable def ref07_Name_c28 : Code := condT ref07_Name_c27
noncomputable def ref07_Name_c29 : Code := condE ref07_Name_c27
noncomputable def ref07_Name_c30 : Code := seqL ref07_Name_c28
noncomputable def ref07_Name_c31 : Code := seqR ref07_Name_c28
noncomputable def ref07_Name_c30o : Array Oper := regO ref07_Name_c30
noncomputable def ref07_Name_c32 : Code := seqL ref07_Name_c29
noncomputable def ref07_Name_c33 : Code := seqR ref07_Name_c29
noncomputable def ref07_Name_c32o : Array Oper := regO ref07_Name_c32
noncomputable def ref07_Name_c34 : Code := condT ref07_Name_c33
noncomputable def ref07_Name_c35 : Code := condE ref07_Name_c33
noncomputable def ref07_Name_c36 : Code := seqL ref07_Name_c34
noncomputable def ref07_Name_c37 : Code := seqR ref07_Name_c34
noncomputable def ref07_Name_c36o : Array Oper := regO ref07_Name_c36
noncomputable def ref07_Name_c38 : Code := seqL ref07_Name_c35
noncomputable def ref07_Name_c39 : Code := seqR ref07_Name_c35
noncomputable def ref07_Name_c38o : Array Oper := regO ref07_Name_c38
noncomputable def ref07_Name_c40 : Code := condT ref07_Name_c39
noncomputable def ref07_Name_c41 : Code := condE ref07_Name_c39
noncomputable def ref07_Name_c42 : Code := seqL ref07_Name_c40
noncomputable def ref07_Name_c43 : Code := seqR ref07_Name_c40
noncomputable def ref07_Name_c42o : Array Oper := regO ref07_Name_c42
noncomputable def ref07_Name_c44 : Code := seqL ref07_Name_c41
noncomputable def ref07_Name_c45 : Code := seqR ref07_Name_c41
noncomputable def ref07_Name_c44o : Array Oper := regO ref07_Name_c44
noncomputable def ref07_Name_c46 : Code := condT ref07_Name_c45
noncomputable def ref07_Name_c47 : Code := condE ref07_Name_c45
noncomputable def ref07_Name_c48 : Code := seqL ref07_Name_c46
noncomputable def ref07_Name_c49 : Code := seqR ref07_Name_c46
noncomputable def ref07_Name_c48o : Array Oper := regO ref07_Name_c48
noncomputable def ref07_Name_c50 : Code := seqL ref07_Name_c4
noncomputable def ref07_Name_c51 : Code := seqR ref07_Name_c4
noncomputable def ref07_Name_c50o : Array Oper := regO ref07_Name_c50
theorem ref07_Name_ok (n : Nat) (p0 : Int) (r : ByteArray) (w : World)  (h : ref07_Name n p0 = some r) :
    Calls Try.prog 22 #[.int .i64 p0] w fun e w' => e = .returned (.string r) ∧ Ext w w' := by
  unfold ref07_Name at h
  refine enter 18 Try.func22 rfl (by kernel_rfl) (by simp) fun a hA => ?_
  change ref07_Name_c0.wp _ _ _ _
  refine c_seq ref07_Name_c1 ref07_Name_c2 (by kernel_rfl) fun K60 hK60 => ?_
  refine c_region ref07_Name_c1o 1 (by kernel_rfl) (by kernel_rfl) ?_
  refine wl_run 0 1 [0] hA rfl (L' := [(0, .int .i64 p0)]) (vs := []) (obl := []) (by kernel_rfl) trivial fun a61 hA62 => ?_
  refine wl_end ?_
  refine hK60 _ _ ?_
  refine c_seq ref07_Name_c3 ref07_Name_c4 (by kernel_rfl) fun K63 hK63 => ?_
  refine c_seq ref07_Name_c5 ref07_Name_c6 (by kernel_rfl) fun K64 hK64 => ?_
  refine c_region ref07_Name_c5o 1 (by kernel_rfl) (by kernel_rfl) ?_
  refine wl_run 0 1 [3] hA62 rfl (L' := [(3, .int .i64 p0)]) (vs := []) (obl := []) (by kernel_rfl) trivial fun a65 hA66 => ?_
  refine wl_end ?_
  refine hK64 _ _ ?_
  refine c_block 0 ref07_Name_c7 (by kernel_rfl) ?_
  refine c_seq ref07_Name_c8 ref07_Name_c9 (by kernel_rfl) fun K67 hK67 => ?_
  refine c_region ref07_Name_c8o 2 (by kernel_rfl) (by kernel_rfl) ?_
  refine wl_run 0 2 [3, 4] hA66 rfl (L' := [(3, .int .i64 p0), (4, .bool (p0 == 0))]) (vs := []) (obl := []) (by kernel_rfl) trivial fun a68 hA69 => ?_
  refine wl_end ?_
  refine hK67 _ _ ?_
  refine c_cond ref07_Name_c10 ref07_Name_c11 (condX ref07_Name_c9) (p0 == 0) hA69 (by kernel_rfl) (by kernel_rfl) (by kernel_rfl) (fun hb70 => ?_) (fun hb70 => ?_)
  · replace h := ctrue hb70 h
    refine c_seq ref07_Name_c12 ref07_Name_c13 (by kernel_rfl) fun K71 hK71 => ?_
    refine c_region ref07_Name_c12o 1 (by kernel_rfl) (by kernel_rfl) ?_
    refine wl_run 0 1 [2] hA69 rfl (L' := [(2, .string (ByteArray.mk #[45]))]) (vs := []) (obl := []) (by kernel_rfl) trivial fun a72 hA73 => ?_
    refine wl_end ?_
    refine hK71 _ _ ?_
    refine c_ret (by kernel_rfl) ?_
    obtain rfl := someI h
    try simp only [Exit.then, Exit.inBlock]
    refine ret1 hA73 2 _ (by kernel_rfl) rfl rfl ?_
    exact ⟨rfl, (Ext.refl _)⟩
  · replace h := cfalse hb70 h
    refine c_seq ref07_Name_c14 ref07_Name_c15 (by kernel_rfl) fun K74 hK74 => ?_
    refine c_region ref07_Name_c14o 2 (by kernel_rfl) (by kernel_rfl) ?_
    refine wl_run 0 2 [3, 6] hA69 rfl (L' := [(3, .int .i64 p0), (6, .bool (p0 == 1))]) (vs := []) (obl := []) (by kernel_rfl) trivial fun a75 hA76 => ?_
    refine wl_end ?_
    refine hK74 _ _ ?_
    refine c_cond ref07_Name_c16 ref07_Name_c17 (condX ref07_Name_c15) (p0 == 1) hA76 (by kernel_rfl) (by kernel_rfl) (by kernel_rfl) (fun hb77 => ?_) (fun hb77 => ?_)
    · replace h := ctrue hb77 h
      refine c_seq ref07_Name_c18 ref07_Name_c19 (by kernel_rfl) fun K78 hK78 => ?_
      refine c_region ref07_Name_c18o 1 (by kernel_rfl) (by kernel_rfl) ?_
      refine wl_run 0 1 [2] hA76 rfl (L' := [(2, .string (ByteArray.mk #[73, 83]))]) (vs := []) (obl := []) (by kernel_rfl) trivial fun a79 hA80 => ?_
      refine wl_end ?_
      refine hK78 _ _ ?_
      refine c_ret (by kernel_rfl) ?_
      obtain rfl := someI h
      try simp only [Exit.then, Exit.inBlock]
      refine ret1 hA80 2 _ (by kernel_rfl) rfl rfl ?_
      exact ⟨rfl, (Ext.refl _)⟩
    · replace h := cfalse hb77 h
      refine c_seq ref07_Name_c20 ref07_Name_c21 (by kernel_rfl) fun K81 hK81 => ?_
      refine c_region ref07_Name_c20o 2 (by kernel_rfl) (by kernel_rfl) ?_
      refine wl_run 0 2 [3, 8] hA76 rfl (L' := [(3, .int .i64 p0), (8, .bool (p0 == 2))]) (vs := []) (obl := []) (by kernel_rfl) trivial fun a82 hA83 => ?_
      refine wl_end ?_
      refine hK81 _ _ ?_
      refine c_cond ref07_Name_c22 ref07_Name_c23 (condX ref07_Name_c21) (p0 == 2) hA83 (by kernel_rfl) (by kernel_rfl) (by kernel_rfl) (fun hb84 => ?_) (fun hb84 => ?_)
      · replace h := ctrue hb84 h
        refine c_seq ref07_Name_c24 ref07_Name_c25 (by kernel_rfl) fun K85 hK85 => ?_
        refine c_region ref07_Name_c24o 1 (by kernel_rfl) (by kernel_rfl) ?_
        refine wl_run 0 1 [2] hA83 rfl (L' := [(2, .string (ByteArray.mk #[73, 88]))]) (vs := []) (obl := []) (by kernel_rfl) trivial fun a86 hA87 => ?_
        refine wl_end ?_
        refine hK85 _ _ ?_
        refine c_ret (by kernel_rfl) ?_
        obtain rfl := someI h
        try simp only [Exit.then, Exit.inBlock]
        refine ret1 hA87 2 _ (by kernel_rfl) rfl rfl ?_
        exact ⟨rfl, (Ext.refl _)⟩
      · replace h := cfalse hb84 h
        refine c_seq ref07_Name_c26 ref07_Name_c27 (by kernel_rfl) fun K88 hK88 => ?_
        refine c_region ref07_Name_c26o 2 (by kernel_rfl) (by kernel_rfl) ?_
        refine wl_run 0 2 [3, 10] hA83 rfl (L' := [(3, .int .i64 p0), (10, .bool (p0 == 3))]) (vs := []) (obl := []) (by kernel_rfl) trivial fun a89 hA90 => ?_
        refine wl_end ?_
        refine hK88 _ _ ?_
        refine c_cond ref07_Name_c28 ref07_Name_c29 (condX ref07_Name_c27) (p0 == 3) hA90 (by kernel_rfl) (by kernel_rfl) (by kernel_rfl) (fun hb91 => ?_) (fun hb91 => ?_)
        · replace h := ctrue hb91 h
          refine c_seq ref07_Name_c30 ref07_Name_c31 (by kernel_rfl) fun K92 hK92 => ?_
          refine c_region ref07_Name_c30o 1 (by kernel_rfl) (by kernel_rfl) ?_
          refine wl_run 0 1 [2] hA90 rfl (L' := [(2, .string (ByteArray.mk #[83]))]) (vs := []) (obl := []) (by kernel_rfl) trivial fun a93 hA94 => ?_
          refine wl_end ?_
          refine hK92 _ _ ?_
          refine c_ret (by kernel_rfl) ?_
          obtain rfl := someI h
          try simp only [Exit.then, Exit.inBlock]
          refine ret1 hA94 2 _ (by kernel_rfl) rfl rfl ?_
          exact ⟨rfl, (Ext.refl _)⟩
        · replace h := cfalse hb91 h
          refine c_seq ref07_Name_c32 ref07_Name_c33 (by kernel_rfl) fun K95 hK95 => ?_
          refine c_region ref07_Name_c32o 2 (by kernel_rfl) (by kernel_rfl) ?_
          refine wl_run 0 2 [3, 12] hA90 rfl (L' := [(3, .int .i64 p0), (12, .bool (p0 == 4))]) (vs := []) (obl := []) (by kernel_rfl) trivial fun a96 hA97 => ?_
          refine wl_end ?_
          refine hK95 _ _ ?_
          refine c_cond ref07_Name_c34 ref07_Name_c35 (condX ref07_Name_c33) (p0 == 4) hA97 (by kernel_rfl) (by kernel_rfl) (by kernel_rfl) (fun hb98 => ?_) (fun hb98 => ?_)
          · replace h := ctrue hb98 h
            refine c_seq ref07_Name_c36 ref07_Name_c37 (by kernel_rfl) fun K99 hK99 => ?_
            refine c_region ref07_Name_c36o 1 (by kernel_rfl) (by kernel_rfl) ?_
            refine wl_run 0 1 [2] hA97 rfl (L' := [(2, .string (ByteArray.mk #[83, 73, 88]))]) (vs := []) (obl := []) (by kernel_rfl) trivial fun a100 hA101 => ?_
            refine wl_end ?_
            refine hK99 _ _ ?_
            refine c_ret (by kernel_rfl) ?_
            obtain rfl := someI h
            try simp only [Exit.then, Exit.inBlock]
            refine ret1 hA101 2 _ (by kernel_rfl) rfl rfl ?_
            exact ⟨rfl, (Ext.refl _)⟩
          · replace h := cfalse hb98 h
            refine c_seq ref07_Name_c38 ref07_Name_c39 (by kernel_rfl) fun K102 hK102 => ?_
            refine c_region ref07_Name_c38o 2 (by kernel_rfl) (by kernel_rfl) ?_
            refine wl_run 0 2 [3, 14] hA97 rfl (L' := [(3, .int .i64 p0), (14, .bool (p0 == 5))]) (vs := []) (obl := []) (by kernel_rfl) trivial fun a103 hA104 => ?_
            refine wl_end ?_
            refine hK102 _ _ ?_
            refine c_cond ref07_Name_c40 ref07_Name_c41 (condX ref07_Name_c39) (p0 == 5) hA104 (by kernel_rfl) (by kernel_rfl) (by kernel_rfl) (fun hb105 => ?_) (fun hb105 => ?_)
            · replace h := ctrue hb105 h
              refine c_seq ref07_Name_c42 ref07_Name_c43 (by kernel_rfl) fun K106 hK106 => ?_
              refine c_region ref07_Name_c42o 1 (by kernel_rfl) (by kernel_rfl) ?_
              refine wl_run 0 1 [2] hA104 rfl (L' := [(2, .string (ByteArray.mk #[88]))]) (vs := []) (obl := []) (by kernel_rfl) trivial fun a107 hA108 => ?_
              refine wl_end ?_
              refine hK106 _ _ ?_
              refine c_ret (by kernel_rfl) ?_
              obtain rfl := someI h
              try simp only [Exit.then, Exit.inBlock]
              refine ret1 hA108 2 _ (by kernel_rfl) rfl rfl ?_
              exact ⟨rfl, (Ext.refl _)⟩
            · replace h := cfalse hb105 h
              refine c_seq ref07_Name_c44 ref07_Name_c45 (by kernel_rfl) fun K109 hK109 => ?_
              refine c_region ref07_Name_c44o 2 (by kernel_rfl) (by kernel_rfl) ?_
              refine wl_run 0 2 [16] hA104 rfl (L' := [(16, .bool (p0 == 6))]) (vs := []) (obl := []) (by kernel_rfl) trivial fun a110 hA111 => ?_
              refine wl_end ?_
              refine hK109 _ _ ?_
              refine c_cond ref07_Name_c46 ref07_Name_c47 (condX ref07_Name_c45) (p0 == 6) hA111 (by kernel_rfl) (by kernel_rfl) (by kernel_rfl) (fun hb112 => ?_) (fun hb112 => ?_)
              · replace h := ctrue hb112 h
                refine c_seq ref07_Name_c48 ref07_Name_c49 (by kernel_rfl) fun K113 hK113 => ?_
                refine c_region ref07_Name_c48o 1 (by kernel_rfl) (by kernel_rfl) ?_
                refine wl_run 0 1 [2] hA111 rfl (L' := [(2, .string (ByteArray.mk #[69]))]) (vs := []) (obl := []) (by kernel_rfl) trivial fun a114 hA115 => ?_
                refine wl_end ?_
                refine hK113 _ _ ?_
                refine c_ret (by kernel_rfl) ?_
                obtain rfl := someI h
                try simp only [Exit.then, Exit.inBlock]
                refine ret1 hA115 2 _ (by kernel_rfl) rfl rfl ?_
                exact ⟨rfl, (Ext.refl _)⟩
              · replace h := cfalse hb112 h
                refine c_skip (by kernel_rfl) ?_
                refine hK63 _ _ ?_
                refine c_seq ref07_Name_c50 ref07_Name_c51 (by kernel_rfl) fun K116 hK116 => ?_
                refine c_region ref07_Name_c50o 1 (by kernel_rfl) (by kernel_rfl) ?_
                refine wl_run 0 1 [2] hA111 rfl (L' := [(2, .string (ByteArray.mk #[]))]) (vs := []) (obl := []) (by kernel_rfl) trivial fun a117 hA118 => ?_
                refine wl_end ?_
                refine hK116 _ _ ?_
                refine c_ret (by kernel_rfl) ?_
                obtain rfl := someI h
                try simp only [Exit.then, Exit.inBlock]
                refine ret1 hA118 2 _ (by kernel_rfl) rfl rfl ?_
                exact ⟨rfl, (Ext.refl _)⟩

/-! slices.Index   string string  -/
def slices_Index_string_l2 (n : Nat) (p0 : (List ByteArray)) (p1 : ByteArray) : Nat → Int → Option Int
  | 0, _ => none
  | m100 + 1, v96 =>
    cond (decide (v96 < (p0.length : Int)))
      ((idx p0 v96).bind fun x112 =>
      cond (p1.toList == x112.toList)
        (some v96)
        (slices_Index_string_l2 n p0 p1 m100 (IntKind.wrap .i64 (v96 + 1))))
      (some (-1))
def slices_Index_string (n : Nat) (p0 : (List ByteArray)) (p1 : ByteArray) : Option Int :=
  slices_Index_string_l2 n p0 p1 n 0
noncomputable def slices_Index_string_c0 : Code := bodyOf Try.f31
noncomputable def slices_Index_string_c1 : Code := seqL slices_Index_string_c0
noncomputable def slices_Index_string_c2 : Code := seqR slices_Index_string_c0
noncomputable def slices_Index_string_c1o : Array Oper := regO slices_Index_string_c1
noncomputable def slices_Index_string_c3 : Code := seqL slices_Index_string_c2
noncomputable def slices_Index_string_c4 : Code := seqR slices_Index_string_c2
noncomputable def slices_Index_string_c5 : Code := seqL slices_Index_string_c3
noncomputable def slices_Index_string_c6 : Code := seqR slices_Index_string_c3
noncomputable def slices_Index_string_c5o : Array Oper := regO slices_Index_string_c5
noncomputable def slices_Index_string_c7 : Code := blkB slices_Index_string_c6
noncomputable def slices_Index_string_c8 : Code := loopB slices_Index_string_c7
noncomputable def slices_Index_string_c9 : Code := seqL slices_Index_string_c8
noncomputable def slices_Index_string_c10 : Code := seqR slices_Index_string_c8
noncomputable def slices_Index_string_c9o : Array Oper := regO slices_Index_string_c9
noncomputable def slices_Index_string_c11 : Code := seqL slices_Index_string_c10
noncomputable def slices_Index_string_c12 : Code := seqR slices_Index_string_c10
noncomputable def slices_Index_string_c13 : Code := condT slices_Index_string_c11
noncomputable def slices_Index_string_c14 : Code := condE slices_Index_string_c11
noncomputable def slices_Index_string_c15 : Code := seqL slices_Index_string_c12
noncomputable def slices_Index_string_c16 : Code := seqR slices_Index_string_c12
noncomputable def slices_Index_string_c17 : Code := blkB slices_Index_string_c15
noncomputable def slices_Index_string_c18 : Code := seqL slices_Index_string_c17
noncomputable def slices_Index_string_c19 : Code := seqR slices_Index_string_c17
noncomputable def slices_Index_string_c18o : Array Oper := regO slices_Index_string_c18
noncomputable def slices_Index_string_c20 : Code := seqL slices_Index_string_c19
noncomputable def slices_Index_string_c21 : Code := seqR slices_Index_string_c19
noncomputable def slices_Index_string_c20o : Array Oper := regO slices_Index_string_c20
noncomputable def slices_Index_string_c22 : Code := condT slices_Index_string_c21
noncomputable def slices_Index_string_c23 : Code := condE slices_Index_string_c21
noncomputable def slices_Index_string_c24 : Code := seqL slices_Index_string_c22
noncomputable def slices_Index_string_c25 : Code := seqR slices_Index_string_c22
noncomputable def slices_Index_string_c24o : Array Oper := regO slices_Index_string_c24
noncomputable def slices_Index_string_c16o : Array Oper := regO slices_Index_string_c16
noncomputable def slices_Index_string_c26 : Code := seqL slices_Index_string_c4
noncomputable def slices_Index_string_c27 : Code := seqR slices_Index_string_c4
noncomputable def slices_Index_string_c26o : Array Oper := regO slices_Index_string_c26
theorem slices_Index_string_ok (n : Nat) (p0 : (List ByteArray)) (p1 : ByteArray) (r : Int) (w : World) {a0 : Option Addr} {c0 : Nat} (hr0 : RS (G := (Flat.toGoT flat_str)) w a0 c0 p0) (h : slices_Index_string n p0 p1 = some r) :
    Calls Try.prog 31 #[.slice a0 p0.length c0, .string p1] w fun e w' => e = .returned (.int .i64 r) ∧ Ext w w' := by
  unfold slices_Index_string at h
  refine enter 19 Try.func31 rfl (by kernel_rfl) (by simp) fun a hA => ?_
  change slices_Index_string_c0.wp _ _ _ _
  refine c_seq slices_Index_string_c1 slices_Index_string_c2 (by kernel_rfl) fun K63 hK63 => ?_
  refine c_region slices_Index_string_c1o 1 (by kernel_rfl) (by kernel_rfl) ?_
  refine wl_run 0 1 [0, 1] hA rfl (L' := [(0, .slice a0 p0.length c0), (1, .string p1)]) (vs := []) (obl := []) (by kernel_rfl) trivial fun a64 hA65 => ?_
  refine wl_end ?_
  refine hK63 _ _ ?_
  refine c_seq slices_Index_string_c3 slices_Index_string_c4 (by kernel_rfl) fun K66 hK66 => ?_
  refine c_seq slices_Index_string_c5 slices_Index_string_c6 (by kernel_rfl) fun K67 hK67 => ?_
  refine c_region slices_Index_string_c5o 3 (by kernel_rfl) (by kernel_rfl) ?_
  refine wl_run 0 3 [0, 1, 7, 8] hA65 rfl (L' := [(0, .slice a0 p0.length c0), (1, .string p1), (7, .int .i64 (p0.length : Int)), (8, .int .i64 0)]) (vs := []) (obl := []) (by kernel_rfl) trivial fun a68 hA69 => ?_
  refine wl_end ?_
  refine hK67 _ _ ?_
  refine c_block 0 slices_Index_string_c7 (by kernel_rfl) ?_
  refine c_loop slices_Index_string_c8 (by kernel_rfl) (fun m100 a98 w95 => ∃ (v96 : Int), slices_Index_string_l2 n p0 p1 m100 v96 = some r ∧ Ext w w95 ∧ Has a98 19 [(0, .slice a0 p0.length c0), (1, .string p1), (7, .int .i64 (p0.length : Int)), (8, .int .i64 v96)]) n ⟨0, h, (Ext.refl _), (Has.keep hA69 [0, 1, 7, 8] rfl)⟩ ?_
  rintro m100 a98 w95 ⟨v96, h, ex97, hA99⟩ K101 hK101
  cases m100 with
  | zero => exact (noneS h).elim
  | succ m100 =>
    unfold slices_Index_string_l2 at h
    refine c_seq slices_Index_string_c9 slices_Index_string_c10 (by kernel_rfl) fun K102 hK102 => ?_
    refine c_region slices_Index_string_c9o 1 (by kernel_rfl) (by kernel_rfl) ?_
    refine wl_run 0 1 [0, 1, 7, 8, 9] hA99 rfl (L' := [(0, .slice a0 p0.length c0), (1, .string p1), (7, .int .i64 (p0.length : Int)), (8, .int .i64 v96), (9, .bool (decide (v96 < (p0.length : Int))))]) (vs := []) (obl := []) (by kernel_rfl) trivial fun a103 hA104 => ?_
    refine wl_end ?_
    refine hK102 _ _ ?_
    refine c_seq slices_Index_string_c11 slices_Index_string_c12 (by kernel_rfl) fun K105 hK105 => ?_
    refine c_cond slices_Index_string_c13 slices_Index_string_c14 (condX slices_Index_string_c11) (decide (v96 < (p0.length : Int))) hA104 (by kernel_rfl) (by kernel_rfl) (by kernel_rfl) (fun hb106 => ?_) (fun hb106 => ?_)
    · replace h := ctrue hb106 h
      refine c_skip (by kernel_rfl) ?_
      refine hK105 _ _ ?_
      refine c_seq slices_Index_string_c15 slices_Index_string_c16 (by kernel_rfl) fun K107 hK107 => ?_
      refine c_block 1 slices_Index_string_c17 (by kernel_rfl) ?_
      refine c_seq slices_Index_string_c18 slices_Index_string_c19 (by kernel_rfl) fun K108 hK108 => ?_
      refine c_region slices_Index_string_c18o 2 (by kernel_rfl) (by kernel_rfl) ?_
      refine wl_run 0 2 [0, 1, 5, 7, 8] hA104 rfl (L' := [(0, .slice a0 p0.length c0), (1, .string p1), (5, .int .i64 v96), (7, .int .i64 (p0.length : Int)), (8, .int .i64 v96)]) (vs := []) (obl := []) (by kernel_rfl) trivial fun a109 hA110 => ?_
      refine wl_end ?_
      refine hK108 _ _ ?_
      refine c_seq slices_Index_string_c20 slices_Index_string_c21 (by kernel_rfl) fun K111 hK111 => ?_
      refine c_region slices_Index_string_c20o 6 (by kernel_rfl) (by kernel_rfl) ?_
      obtain ⟨x112, hx112, h⟩ := bindS h
      have hi113 := RS.fidx (F := flat_str) (hr0.mono ex97) hx112
      refine wl_run 0 6 [0, 1, 5, 7, 8, 16] hA110 rfl (L' := [(0, .slice a0 p0.length c0), (1, .string p1), (5, .int .i64 v96), (7, .int .i64 (p0.length : Int)), (8, .int .i64 v96), (16, .bool (p1.toList == x112.toList))]) (vs := [[.string x112]]) (obl := [fun w => CellsAt w (Addr.add (baseOf a0) (Int.toNat v96 * 1)) [.string x112], fun _ => Inb a0 p0.length v96]) (by kernel_rfl) ⟨hi113.2, hi113.1, trivial⟩ fun a114 hA115 => ?_
      refine wl_end ?_
      refine hK111 _ _ ?_
      refine c_cond slices_Index_string_c22 slices_Index_string_c23 (condX slices_Index_string_c21) (p1.toList == x112.toList) hA115 (by kernel_rfl) (by kernel_rfl) (by kernel_rfl) (fun hb116 => ?_) (fun hb116 => ?_)
      · replace h := ctrue hb116 h
        refine c_seq slices_Index_string_c24 slices_Index_string_c25 (by kernel_rfl) fun K117 hK117 => ?_
        refine c_region slices_Index_string_c24o 2 (by kernel_rfl) (by kernel_rfl) ?_
        refine wl_run 0 2 [4] hA115 rfl (L' := [(4, .int .i64 v96)]) (vs := []) (obl := []) (by kernel_rfl) trivial fun a118 hA119 => ?_
        refine wl_end ?_
        refine hK117 _ _ ?_
        refine c_ret (by kernel_rfl) ?_
        obtain rfl := someI h
        try simp only [Exit.then, Exit.inBlock]
        refine ret1 hA119 4 _ (by kernel_rfl) rfl rfl ?_
        exact ⟨rfl, ex97⟩
      · replace h := cfalse hb116 h
        refine c_skip (by kernel_rfl) ?_
        refine hK107 _ _ ?_
        refine c_region slices_Index_string_c16o 2 (by kernel_rfl) (by kernel_rfl) ?_
        refine wl_run 0 2 [0, 1, 7, 8] hA115 rfl (L' := [(0, .slice a0 p0.length c0), (1, .string p1), (7, .int .i64 (p0.length : Int)), (8, .int .i64 (IntKind.wrap .i64 (v96 + 1)))]) (vs := []) (obl := []) (by kernel_rfl) trivial fun a120 hA121 => ?_
        refine wl_end ?_
        exact hK101 m100 _ _ (Nat.lt_succ_self _) ⟨(IntKind.wrap .i64 (v96 + 1)), h, ex97, (Has.keep hA121 [0, 1, 7, 8] rfl)⟩
    · replace h := cfalse hb106 h
      refine c_exit 0 (by kernel_rfl) ?_
      refine hK66 _ _ ?_
      refine c_seq slices_Index_string_c26 slices_Index_string_c27 (by kernel_rfl) fun K122 hK122 => ?_
      refine c_region slices_Index_string_c26o 1 (by kernel_rfl) (by kernel_rfl) ?_
      refine wl_run 0 1 [4] hA104 rfl (L' := [(4, .int .i64 (-1))]) (vs := []) (obl := []) (by kernel_rfl) trivial fun a123 hA124 => ?_
      refine wl_end ?_
      refine hK122 _ _ ?_
      refine c_ret (by kernel_rfl) ?_
      obtain rfl := someI h
      try simp only [Exit.then, Exit.inBlock]
      refine ret1 hA124 4 _ (by kernel_rfl) rfl rfl ?_
      exact ⟨rfl, ex97⟩

end Go.Proofs.Ytghinjlfaicpjaa
