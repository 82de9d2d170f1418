/- Functions of the program: plain twins and walks, printed by program. -/
import Derived.Test.YtghinjlfaicpjaaTypes
import Derived.Test.YtghinjlfaicpjaaF0
namespace Go.Proofs.Ytghinjlfaicpjaa
open Go.Bur Go.RowKit
set_option linter.unusedVariables false
set_option linter.unusedSimpArgs false
set_option maxRecDepth 100000
/-! bursary mode.goes -/
def mode_goes (n : Nat) (p0 : Int) : Option Int :=
  (mode_set n ([0, 1, 2, 3, 4, 5, 6] : List Int)).bind fun y117 =>
  (mode_set n ([0, 1, 2, 3, 4] : List Int)).bind fun y129 =>
  (mode_set n ([0, 1, 2] : List Int)).bind fun y141 =>
  (mode_set n ([0, 1, 3] : List Int)).bind fun y153 =>
  (mode_set n ([0, 1] : List Int)).bind fun y165 =>
  (mode_set n ([0] : List Int)).bind fun y177 =>
  (mode_set n ([0, 6] : List Int)).bind fun y189 =>
  (idx ([y117, y129, y141, y153, y165, y177, y189] : List Int) p0).bind fun x207 =>
  some x207
noncomputable def mode_goes_c0 : Code := bodyOf Try.f26
noncomputable def mode_goes_c1 : Code := seqL mode_goes_c0
noncomputable def mode_goes_c2 : Code := seqR mode_goes_c0
noncomputable def mode_goes_c1o : Array Oper := regO mode_goes_c1
noncomputable def mode_goes_c3 : Code := seqL mode_goes_c2
noncomputable def mode_goes_c4 : Code := seqR mode_goes_c2
noncomputable def mode_goes_c3o : Array Oper := regO mode_goes_c3
noncomputable def mode_goes_c5 : Code := seqL mode_goes_c4
noncomputable def mode_goes_c6 : Code := seqR mode_goes_c4
noncomputable def mode_goes_c5o : Array Oper := regO mode_goes_c5
theorem mode_goes_ok (n : Nat) (p0 : Int) (r : Int) (w : World)  (h : mode_goes n p0 = some r) :
    Calls Try.prog 26 #[.int .i64 p0] w fun e w' => e = .returned (.int .i64 r) ∧ Ext w w' := by
  unfold mode_goes at h
  refine enter 22 Try.func26 rfl (by kernel_rfl) (by simp) fun a hA => ?_
  change mode_goes_c0.wp _ _ _ _
  refine c_seq mode_goes_c1 mode_goes_c2 (by kernel_rfl) fun K106 hK106 => ?_
  refine c_region mode_goes_c1o 1 (by kernel_rfl) (by kernel_rfl) ?_
  refine wl_run 0 1 [0] hA rfl (L' := [(0, .int .i64 p0)]) (vs := []) (obl := []) (by kernel_rfl) trivial fun a107 hA108 => ?_
  refine wl_end ?_
  refine hK106 _ _ ?_
  refine c_seq mode_goes_c3 mode_goes_c4 (by kernel_rfl) fun K109 hK109 => ?_
  refine c_region mode_goes_c3o 17 (by kernel_rfl) (by kernel_rfl) ?_
  refine wl_new 0 rfl hA108 (d := 4) (m := (some 7)) (cs := [.int .i64 0, .int .i64 1, .int .i64 2, .int .i64 3, .int .i64 4, .int .i64 5, .int .i64 6]) (T := 3) (by kernel_rfl) rfl fun b110 a113 w112 nb111 hA114 => ?_
  have ex115 := NewB.ext nb111
  have hr116 : RS (G := (Flat.toGoT flat_i64)) w112 (some ⟨b110, 0, none⟩) 7 ([0, 1, 2, 3, 4, 5, 6] : List Int) := RS.ofCells (F := flat_i64) (Own.cells (NewB.own nb111)) (Nat.le_refl _)
  obtain ⟨y117, hy117, h⟩ := bindS h
  refine wl_call 1 rfl (d := some 5) (g := 29) (args := #[.slice (some ⟨b110, 0, none⟩) ([0, 1, 2, 3, 4, 5, 6] : List Int).length 7]) hA114 (by kernel_rfl) Try.call29 (mode_set_ok n _ y117 w112 hr116 hy117) ?_
  rintro e w118 ⟨rfl, ex119⟩
  refine ⟨_, rfl, fun a120 hA121 => ?_⟩
  refine wl_new 2 rfl hA121 (d := 6) (m := (some 5)) (cs := [.int .i64 0, .int .i64 1, .int .i64 2, .int .i64 3, .int .i64 4]) (T := 3) (by kernel_rfl) rfl fun b122 a125 w124 nb123 hA126 => ?_
  have ex127 := NewB.ext nb123
  have hr128 : RS (G := (Flat.toGoT flat_i64)) w124 (some ⟨b122, 0, none⟩) 5 ([0, 1, 2, 3, 4] : List Int) := RS.ofCells (F := flat_i64) (Own.cells (NewB.own nb123)) (Nat.le_refl _)
  obtain ⟨y129, hy129, h⟩ := bindS h
  refine wl_call 3 rfl (d := some 7) (g := 29) (args := #[.slice (some ⟨b122, 0, none⟩) ([0, 1, 2, 3, 4] : List Int).length 5]) hA126 (by kernel_rfl) Try.call29 (mode_set_ok n _ y129 w124 hr128 hy129) ?_
  rintro e w130 ⟨rfl, ex131⟩
  refine ⟨_, rfl, fun a132 hA133 => ?_⟩
  refine wl_new 4 rfl hA133 (d := 8) (m := (some 3)) (cs := [.int .i64 0, .int .i64 1, .int .i64 2]) (T := 3) (by kernel_rfl) rfl fun b134 a137 w136 nb135 hA138 => ?_
  have ex139 := NewB.ext nb135
  have hr140 : RS (G := (Flat.toGoT flat_i64)) w136 (some ⟨b134, 0, none⟩) 3 ([0, 1, 2] : List Int) := RS.ofCells (F := flat_i64) (Own.cells (NewB.own nb135)) (Nat.le_refl _)
  obtain ⟨y141, hy141, h⟩ := bindS h
  refine wl_call 5 rfl (d := some 9) (g := 29) (args := #[.slice (some ⟨b134, 0, none⟩) ([0, 1, 2] : List Int).length 3]) hA138 (by kernel_rfl) Try.call29 (mode_set_ok n _ y141 w136 hr140 hy141) ?_
  rintro e w142 ⟨rfl, ex143⟩
  refine ⟨_, rfl, fun a144 hA145 => ?_⟩
  refine wl_new 6 rfl hA145 (d := 10) (m := (some 3)) (cs := [.int .i64 0, .int .i64 1, .int .i64 3]) (T := 3) (by kernel_rfl) rfl fun b146 a149 w148 nb147 hA150 => ?_
  have ex151 := NewB.ext nb147
  have hr152 : RS (G := (Flat.toGoT flat_i64)) w148 (some ⟨b146, 0, none⟩) 3 ([0, 1, 3] : List Int) := RS.ofCells (F := flat_i64) (Own.cells (NewB.own nb147)) (Nat.le_refl _)
  obtain ⟨y153, hy153, h⟩ := bindS h
  refine wl_call 7 rfl (d := some 11) (g := 29) (args := #[.slice (some ⟨b146, 0, none⟩) ([0, 1, 3] : List Int).length 3]) hA150 (by kernel_rfl) Try.call29 (mode_set_ok n _ y153 w148 hr152 hy153) ?_
  rintro e w154 ⟨rfl, ex155⟩
  refine ⟨_, rfl, fun a156 hA157 => ?_⟩
  refine wl_new 8 rfl hA157 (d := 12) (m := (some 2)) (cs := [.int .i64 0, .int .i64 1]) (T := 3) (by kernel_rfl) rfl fun b158 a161 w160 nb159 hA162 => ?_
  have ex163 := NewB.ext nb159
  have hr164 : RS (G := (Flat.toGoT flat_i64)) w160 (some ⟨b158, 0, none⟩) 2 ([0, 1] : List Int) := RS.ofCells (F := flat_i64) (Own.cells (NewB.own nb159)) (Nat.le_refl _)
  obtain ⟨y165, hy165, h⟩ := bindS h
  refine wl_call 9 rfl (d := some 13) (g := 29) (args := #[.slice (some ⟨b158, 0, none⟩) ([0, 1] : List Int).length 2]) hA162 (by kernel_rfl) Try.call29 (mode_set_ok n _ y165 w160 hr164 hy165) ?_
  rintro e w166 ⟨rfl, ex167⟩
  refine ⟨_, rfl, fun a168 hA169 => ?_⟩
  refine wl_new 10 rfl hA169 (d := 14) (m := (some 1)) (cs := [.int .i64 0]) (T := 3) (by kernel_rfl) rfl fun b170 a173 w172 nb171 hA174 => ?_
  have ex175 := NewB.ext nb171
  have hr176 : RS (G := (Flat.toGoT flat_i64)) w172 (some ⟨b170, 0, none⟩) 1 ([0] : List Int) := RS.ofCells (F := flat_i64) (Own.cells (NewB.own nb171)) (Nat.le_refl _)
  obtain ⟨y177, hy177, h⟩ := bindS h
  refine wl_call 11 rfl (d := some 15) (g := 29) (args := #[.slice (some ⟨b170, 0, none⟩) ([0] : List Int).length 1]) hA174 (by kernel_rfl) Try.call29 (mode_set_ok n _ y177 w172 hr176 hy177) ?_
  rintro e w178 ⟨rfl, ex179⟩
  refine ⟨_, rfl, fun a180 hA181 => ?_⟩
  refine wl_new 12 rfl hA181 (d := 16) (m := (some 2)) (cs := [.int .i64 0, .int .i64 6]) (T := 3) (by kernel_rfl) rfl fun b182 a185 w184 nb183 hA186 => ?_
  have ex187 := NewB.ext nb183
  have hr188 : RS (G := (Flat.toGoT flat_i64)) w184 (some ⟨b182, 0, none⟩) 2 ([0, 6] : List Int) := RS.ofCells (F := flat_i64) (Own.cells (NewB.own nb183)) (Nat.le_refl _)
  obtain ⟨y189, hy189, h⟩ := bindS h
  refine wl_call 13 rfl (d := some 17) (g := 29) (args := #[.slice (some ⟨b182, 0, none⟩) ([0, 6] : List Int).length 2]) hA186 (by kernel_rfl) Try.call29 (mode_set_ok n _ y189 w184 hr188 hy189) ?_
  rintro e w190 ⟨rfl, ex191⟩
  refine ⟨_, rfl, fun a192 hA193 => ?_⟩
  refine wl_run 14 1 [0, 18] hA193 rfl (L' := [(0, .int .i64 p0), (18, .agg #[.int .i64 y117, .int .i64 y129, .int .i64 y141, .int .i64 y153, .int .i64 y165, .int .i64 y177, .int .i64 y189])]) (vs := []) (obl := []) (by kernel_rfl) trivial fun a194 hA195 => ?_
  refine wl_new 15 rfl hA195 (d := 3) (m := none) (cs := [.int .i64 0, .int .i64 0, .int .i64 0, .int .i64 0, .int .i64 0, .int .i64 0, .int .i64 0]) (T := 40) (by kernel_rfl) rfl fun b196 a199 w198 nb197 hA200 => ?_
  have ex201 := NewB.ext nb197
  refine wl_store 16 rfl (A := (⟨b196, 0, none⟩ : Addr)) (vs := [.int .i64 y117, .int .i64 y129, .int .i64 y141, .int .i64 y153, .int .i64 y165, .int .i64 y177, .int .i64 y189]) (cs := [.int .i64 0, .int .i64 0, .int .i64 0, .int .i64 0, .int .i64 0, .int .i64 0, .int .i64 0]) (cs' := [.int .i64 y117, .int .i64 y129, .int .i64 y141, .int .i64 y153, .int .i64 y165, .int .i64 y177, .int .i64 y189]) b196 0 hA200 (by kernel_rfl) (by kernel_rfl) (NewB.own nb197) (Nat.le_of_ble_eq_true rfl) (oneAll (by kernel_rfl)) (by kernel_rfl) fun w202 m203 ho204 hs205 => ?_
  refine wl_end ?_
  refine hK109 _ _ ?_
  refine c_seq mode_goes_c5 mode_goes_c6 (by kernel_rfl) fun K206 hK206 => ?_
  refine c_region mode_goes_c5o 4 (by kernel_rfl) (by kernel_rfl) ?_
  obtain ⟨x207, hx207, h⟩ := bindS h
  have hi208 := RS.fidx (F := flat_i64) (RS.ofCells (F := flat_i64) (c := 7) (l := [y117, y129, y141, y153, y165, y177, y189]) (A := (⟨b196, 0, none⟩ : Addr)) (Own.cells ho204) (Nat.le_refl _)) hx207
  refine wl_run 0 4 [2] hA200 rfl (L' := [(2, .int .i64 x207)]) (vs := [[.int .i64 x207]]) (obl := [fun w => CellsAt w (Addr.add (⟨b196, 0, none⟩ : Addr) (Int.toNat p0 * 1)) [.int .i64 x207], fun _ => 0 ≤ p0 ∧ p0 < (7 : Int)]) (by kernel_rfl) ⟨hi208.2, ⟨hi208.1.1, hi208.1.2.1⟩, trivial⟩ fun a209 hA210 => ?_
  refine wl_end ?_
  refine hK206 _ _ ?_
  refine c_ret (by kernel_rfl) ?_
  obtain rfl := someI h
  try simp only [Exit.then, Exit.inBlock]
  refine ret1 hA210 2 _ (by kernel_rfl) rfl rfl ?_
  exact ⟨rfl, (Ext.mut (Ext.trans (Ext.trans (Ext.trans (Ext.trans (Ext.trans (Ext.trans (Ext.trans (Ext.trans (Ext.trans (Ext.trans (Ext.trans (Ext.trans (Ext.trans (Ext.trans ex115 ex119) ex127) ex131) ex139) ex143) ex151) ex155) ex163) ex167) ex175) ex179) ex187) ex191) ex201) m203 (Nat.le_trans (Ext.size (Ext.trans (Ext.trans (Ext.trans (Ext.trans (Ext.trans (Ext.trans (Ext.trans (Ext.trans (Ext.trans (Ext.trans (Ext.trans (Ext.trans (Ext.trans ex115 ex119) ex127) ex131) ex139) ex143) ex151) ex155) ex163) ex167) ex175) ex179) ex187) ex191)) (NewB.ge nb197)))⟩

/-! bursary mode.Goes -/
def mode_Goes_j1 (n : Nat)  (p155 : Bool) : Option Bool :=
  some p155
def mode_Goes_j2 (n : Nat) (p0 : Int) (p1 : Int) (p129 : Bool) : Option Bool :=
  (cond p129
  ((mode_goes n p0).bind fun y168 =>
  (mode_has n y168 p1).bind fun y175 =>
  some y175)
  (some false)).bind fun p155 =>
  mode_Goes_j1 n p155
def mode_Goes (n : Nat) (p0 : Int) (p1 : Int) : Option Bool :=
  (mode_is n p0).bind fun y106 =>
  (cond y106
  ((mode_is n p1).bind fun y192 =>
  some y192)
  (some false)).bind fun p129 =>
  mode_Goes_j2 n p0 p1 p129
noncomputable def mode_Goes_c0 : Code := bodyOf Try.f10
noncomputable def mode_Goes_c1 : Code := seqL mode_Goes_c0
noncomputable def mode_Goes_c2 : Code := seqR mode_Goes_c0
noncomputable def mode_Goes_c1o : Array Oper := regO mode_Goes_c1
noncomputable def mode_Goes_c3 : Code := seqL mode_Goes_c2
noncomputable def mode_Goes_c4 : Code := seqR mode_Goes_c2
noncomputable def mode_Goes_c3o : Array Oper := regO mode_Goes_c3
theorem mode_Goes_ok (n : Nat) (p0 : Int) (p1 : Int) (r : Bool) (w : World)  (h : mode_Goes n p0 p1 = some r) :
    Calls Try.prog 10 #[.int .i64 p0, .int .i64 p1] w fun e w' => e = .returned (.bool r) ∧ Ext w w' := by
  unfold mode_Goes at h
  refine enter 17 Try.func10 rfl (by kernel_rfl) (by simp) fun a hA => ?_
  change mode_Goes_c0.wp _ _ _ _
  refine c_seq mode_Goes_c1 mode_Goes_c2 (by kernel_rfl) fun K100 hK100 => ?_
  refine c_region mode_Goes_c1o 1 (by kernel_rfl) (by kernel_rfl) ?_
  refine wl_run 0 1 [0, 1] hA rfl (L' := [(0, .int .i64 p0), (1, .int .i64 p1)]) (vs := []) (obl := []) (by kernel_rfl) trivial fun a101 hA102 => ?_
  refine wl_end ?_
  refine hK100 _ _ ?_
  refine c_seq mode_Goes_c3 mode_Goes_c4 (by kernel_rfl) fun K103 hK103 => ?_
  refine c_region mode_Goes_c3o 13 (by kernel_rfl) (by kernel_rfl) ?_
  refine wl_run 0 1 [0, 1, 5] hA102 rfl (L' := [(0, .int .i64 p0), (1, .int .i64 p1), (5, .int .i64 p0)]) (vs := []) (obl := []) (by kernel_rfl) trivial fun a104 hA105 => ?_
  obtain ⟨y106, hy106, h⟩ := bindS h
  refine wl_call 1 rfl (d := some 6) (g := 24) (args := #[.int .i64 p0]) hA105 (by kernel_rfl) Try.call24 (mode_is_ok n _ y106 w hy106) ?_
  rintro e w107 ⟨rfl, ex108⟩
  refine ⟨_, rfl, fun a109 hA110 => ?_⟩
  refine wl_run 2 1 [0, 1, 7] hA110 rfl (L' := [(0, .int .i64 p0), (1, .int .i64 p1), (7, .bool y106)]) (vs := []) (obl := []) (by kernel_rfl) trivial fun a111 hA112 => ?_
  refine wl_cut 6 rfl rfl fun K113 hK113 => ?_
  have JK113 : ∀ (p129 : Bool) (a126 : Act) (w125 : World), Ext w107 w125 → Has a126 17 [(0, .int .i64 p0), (1, .int .i64 p1), (10, .bool p129)] → mode_Goes_j2 n p0 p1 p129 = some r → K113 a126 w125 := by
    intro p129 a126 w125 ex128 hA127 h
    unfold mode_Goes_j2 at h
    refine hK113 _ _ ?_
    refine wl_run 6 1 [0, 1, 11] hA127 rfl (L' := [(0, .int .i64 p0), (1, .int .i64 p1), (11, .bool p129)]) (vs := []) (obl := []) (by kernel_rfl) trivial fun a130 hA131 => ?_
    refine wl_cut 12 rfl rfl fun K132 hK132 => ?_
    have JK132 : ∀ (p155 : Bool) (a152 : Act) (w151 : World), Ext w125 w151 → Has a152 17 [(16, .bool p155)] → mode_Goes_j1 n p155 = some r → K132 a152 w151 := by
      intro p155 a152 w151 ex154 hA153 h
      unfold mode_Goes_j1 at h
      refine hK132 _ _ ?_
      refine wl_run 12 1 [4] hA153 rfl (L' := [(4, .bool p155)]) (vs := []) (obl := []) (by kernel_rfl) trivial fun a156 hA157 => ?_
      refine wl_end ?_
      refine hK103 _ _ ?_
      refine c_ret (by kernel_rfl) ?_
      obtain rfl := someI h
      try simp only [Exit.then, Exit.inBlock]
      refine ret1 hA157 4 _ (by kernel_rfl) rfl rfl ?_
      exact ⟨rfl, (Ext.trans (Ext.trans ex108 ex128) ex154)⟩
    obtain ⟨p155, hv159, h⟩ := bindS h
    cases hb158 : p129
    · have hA160 := Has.to (L' := [(0, .int .i64 p0), (1, .int .i64 p1), (11, .bool false)]) hA131 (by rw [hb158])
      replace hv159 := cfalse hb158 hv159
      have hk161 := h
      clear h
      have h := hv159
      refine wl_run 7 5 [16] hA160 rfl (L' := [(16, .bool false)]) (vs := []) (obl := []) (by kernel_rfl) trivial fun a162 hA163 => ?_
      refine wl_end ?_
      obtain rfl := someI h
      exact JK132 _ a162 w125 (Ext.refl _) (Has.keep hA163 [16] rfl) hk161
    · have hA164 := Has.to (L' := [(0, .int .i64 p0), (1, .int .i64 p1), (11, .bool true)]) hA131 (by rw [hb158])
      replace hv159 := ctrue hb158 hv159
      have hk165 := h
      clear h
      have h := hv159
      refine wl_run 7 1 [1, 11, 12] hA164 rfl (L' := [(1, .int .i64 p1), (11, .bool true), (12, .int .i64 p0)]) (vs := []) (obl := []) (by kernel_rfl) trivial fun a166 hA167 => ?_
      obtain ⟨y168, hy168, h⟩ := bindS h
      refine wl_call 8 rfl (d := some 13) (g := 26) (args := #[.int .i64 p0]) hA167 (by kernel_rfl) Try.call26 (mode_goes_ok n _ y168 w125 hy168) ?_
      rintro e w169 ⟨rfl, ex170⟩
      refine ⟨_, rfl, fun a171 hA172 => ?_⟩
      refine wl_run 9 1 [11, 13, 14] hA172 rfl (L' := [(11, .bool true), (13, .int .i64 y168), (14, .int .i64 p1)]) (vs := []) (obl := []) (by kernel_rfl) trivial fun a173 hA174 => ?_
      obtain ⟨y175, hy175, h⟩ := bindS h
      refine wl_call 10 rfl (d := some 15) (g := 25) (args := #[.int .i64 y168, .int .i64 p1]) hA174 (by kernel_rfl) Try.call25 (mode_has_ok n _ _ y175 w169 hy175) ?_
      rintro e w176 ⟨rfl, ex177⟩
      refine ⟨_, rfl, fun a178 hA179 => ?_⟩
      refine wl_run 11 1 [16] hA179 rfl (L' := [(16, .bool y175)]) (vs := []) (obl := []) (by kernel_rfl) trivial fun a180 hA181 => ?_
      refine wl_end ?_
      obtain rfl := someI h
      exact JK132 _ a180 w176 (Ext.trans ex170 ex177) (Has.keep hA181 [16] rfl) hk165
  obtain ⟨p129, hv183, h⟩ := bindS h
  cases hb182 : y106
  · have hA184 := Has.to (L' := [(0, .int .i64 p0), (1, .int .i64 p1), (7, .bool false)]) hA112 (by rw [hb182])
    replace hv183 := cfalse hb182 hv183
    have hk185 := h
    clear h
    have h := hv183
    refine wl_run 3 3 [0, 1, 10] hA184 rfl (L' := [(0, .int .i64 p0), (1, .int .i64 p1), (10, .bool false)]) (vs := []) (obl := []) (by kernel_rfl) trivial fun a186 hA187 => ?_
    refine wl_end ?_
    obtain rfl := someI h
    exact JK113 _ a186 w107 (Ext.refl _) (Has.keep hA187 [0, 1, 10] rfl) hk185
  · have hA188 := Has.to (L' := [(0, .int .i64 p0), (1, .int .i64 p1), (7, .bool true)]) hA112 (by rw [hb182])
    replace hv183 := ctrue hb182 hv183
    have hk189 := h
    clear h
    have h := hv183
    refine wl_run 3 1 [0, 1, 7, 8] hA188 rfl (L' := [(0, .int .i64 p0), (1, .int .i64 p1), (7, .bool true), (8, .int .i64 p1)]) (vs := []) (obl := []) (by kernel_rfl) trivial fun a190 hA191 => ?_
    obtain ⟨y192, hy192, h⟩ := bindS h
    refine wl_call 4 rfl (d := some 9) (g := 24) (args := #[.int .i64 p1]) hA191 (by kernel_rfl) Try.call24 (mode_is_ok n _ y192 w107 hy192) ?_
    rintro e w193 ⟨rfl, ex194⟩
    refine ⟨_, rfl, fun a195 hA196 => ?_⟩
    refine wl_run 5 1 [0, 1, 10] hA196 rfl (L' := [(0, .int .i64 p0), (1, .int .i64 p1), (10, .bool y192)]) (vs := []) (obl := []) (by kernel_rfl) trivial fun a197 hA198 => ?_
    refine wl_end ?_
    obtain rfl := someI h
    exact JK113 _ a197 w193 ex194 (Has.keep hA198 [0, 1, 10] rfl) hk189

/-! bursary bursarylaw07.wakes -/
def law07_wakes_j1 (n : Nat)  (p155 : Bool) : Option Bool :=
  some p155
def law07_wakes_j2 (n : Nat)  (p138 : Bool) : Option Bool :=
  (cond p138
  ((mode_Goes n 3 2).bind fun y166 =>
  some (!y166))
  (some false)).bind fun p155 =>
  law07_wakes_j1 n p155
def law07_wakes (n : Nat)  : Option Bool :=
  (mode_Sup n 3 2).bind fun y103 =>
  (cond ((y103.2 == 0) && (y103.1 == 4))
  ((mode_Goes n 6 6).bind fun y181 =>
  some y181)
  (some false)).bind fun p138 =>
  law07_wakes_j2 n p138
noncomputable def law07_wakes_c0 : Code := bodyOf Try.f8
noncomputable def law07_wakes_c1 : Code := seqL law07_wakes_c0
noncomputable def law07_wakes_c2 : Code := seqR law07_wakes_c0
noncomputable def law07_wakes_c1o : Array Oper := regO law07_wakes_c1
noncomputable def law07_wakes_c3 : Code := seqL law07_wakes_c2
noncomputable def law07_wakes_c4 : Code := seqR law07_wakes_c2
noncomputable def law07_wakes_c3o : Array Oper := regO law07_wakes_c3
noncomputable def law07_wakes_c5 : Code := seqL law07_wakes_c4
noncomputable def law07_wakes_c6 : Code := seqR law07_wakes_c4
noncomputable def law07_wakes_c5o : Array Oper := regO law07_wakes_c5
theorem law07_wakes_ok (n : Nat)  (r : Bool) (w : World)  (h : law07_wakes n  = some r) :
    Calls Try.prog 8 #[] w fun e w' => e = .returned (.bool r) ∧ Ext w w' := by
  unfold law07_wakes at h
  refine enter 20 Try.func8 rfl (by kernel_rfl) (by simp) fun a hA => ?_
  change law07_wakes_c0.wp _ _ _ _
  refine c_seq law07_wakes_c1 law07_wakes_c2 (by kernel_rfl) fun K99 hK99 => ?_
  refine c_region law07_wakes_c1o 1 (by kernel_rfl) (by kernel_rfl) ?_
  refine wl_run 0 1 [] hA rfl (L' := []) (vs := []) (obl := []) (by kernel_rfl) trivial fun a100 hA101 => ?_
  refine wl_end ?_
  refine hK99 _ _ ?_
  refine c_seq law07_wakes_c3 law07_wakes_c4 (by kernel_rfl) fun K102 hK102 => ?_
  refine c_region law07_wakes_c3o 6 (by kernel_rfl) (by kernel_rfl) ?_
  obtain ⟨y103, hy103, h⟩ := bindS h
  refine wl_call 0 rfl (d := some 4) (g := 9) (args := #[.int .i64 3, .int .i64 2]) hA101 (by kernel_rfl) Try.call9 (mode_Sup_ok n _ _ y103 w hy103) ?_
  rintro e w104 ⟨rfl, ex105⟩
  refine ⟨_, rfl, fun a106 hA107 => ?_⟩
  refine wl_run 1 5 [1, 2] hA107 rfl (L' := [(1, .int .i64 y103.1), (2, .int .i64 y103.2)]) (vs := []) (obl := []) (by kernel_rfl) trivial fun a108 hA109 => ?_
  refine wl_end ?_
  refine hK102 _ _ ?_
  refine c_seq law07_wakes_c5 law07_wakes_c6 (by kernel_rfl) fun K110 hK110 => ?_
  refine c_region law07_wakes_c5o 14 (by kernel_rfl) (by kernel_rfl) ?_
  refine wl_run 0 3 [1, 9] hA109 rfl (L' := [(1, .int .i64 y103.1), (9, .bool (y103.2 == 0))]) (vs := []) (obl := []) (by kernel_rfl) trivial fun a111 hA112 => ?_
  refine wl_cut 6 rfl rfl fun K113 hK113 => ?_
  have JK113 : ∀ (a119 : Act), Has a119 20 [(12, .bool ((y103.2 == 0) && (y103.1 == 4)))] → K113 a119 w104 := by
    intro a119 hA120
    refine hK113 _ _ ?_
    refine wl_run 6 1 [13] hA120 rfl (L' := [(13, .bool ((y103.2 == 0) && (y103.1 == 4)))]) (vs := []) (obl := []) (by kernel_rfl) trivial fun a122 hA123 => ?_
    refine wl_cut 9 rfl rfl fun K124 hK124 => ?_
    have JK124 : ∀ (p138 : Bool) (a135 : Act) (w134 : World), Ext w104 w134 → Has a135 20 [(15, .bool p138)] → law07_wakes_j2 n p138 = some r → K124 a135 w134 := by
      intro p138 a135 w134 ex137 hA136 h
      unfold law07_wakes_j2 at h
      refine hK124 _ _ ?_
      refine wl_run 9 1 [16] hA136 rfl (L' := [(16, .bool p138)]) (vs := []) (obl := []) (by kernel_rfl) trivial fun a139 hA140 => ?_
      refine wl_cut 13 rfl rfl fun K141 hK141 => ?_
      have JK141 : ∀ (p155 : Bool) (a152 : Act) (w151 : World), Ext w134 w151 → Has a152 20 [(19, .bool p155)] → law07_wakes_j1 n p155 = some r → K141 a152 w151 := by
        intro p155 a152 w151 ex154 hA153 h
        unfold law07_wakes_j1 at h
        refine hK141 _ _ ?_
        refine wl_run 13 1 [0] hA153 rfl (L' := [(0, .bool p155)]) (vs := []) (obl := []) (by kernel_rfl) trivial fun a156 hA157 => ?_
        refine wl_end ?_
        refine hK110 _ _ ?_
        refine c_ret (by kernel_rfl) ?_
        obtain rfl := someI h
        try simp only [Exit.then, Exit.inBlock]
        refine ret1 hA157 0 _ (by kernel_rfl) rfl rfl ?_
        exact ⟨rfl, (Ext.trans (Ext.trans ex105 ex137) ex154)⟩
      obtain ⟨p155, hv159, h⟩ := bindS h
      cases hb158 : p138
      · have hA160 := Has.to (L' := [(16, .bool false)]) hA140 (by rw [hb158])
        replace hv159 := cfalse hb158 hv159
        have hk161 := h
        clear h
        have h := hv159
        refine wl_run 10 3 [19] hA160 rfl (L' := [(19, .bool false)]) (vs := []) (obl := []) (by kernel_rfl) trivial fun a162 hA163 => ?_
        refine wl_end ?_
        obtain rfl := someI h
        exact JK141 _ a162 w134 (Ext.refl _) (Has.keep hA163 [19] rfl) hk161
      · have hA164 := Has.to (L' := [(16, .bool true)]) hA140 (by rw [hb158])
        replace hv159 := ctrue hb158 hv159
        have hk165 := h
        clear h
        have h := hv159
        obtain ⟨y166, hy166, h⟩ := bindS h
        refine wl_call 10 rfl (d := some 17) (g := 10) (args := #[.int .i64 3, .int .i64 2]) hA164 (by kernel_rfl) Try.call10 (mode_Goes_ok n _ _ y166 w134 hy166) ?_
        rintro e w167 ⟨rfl, ex168⟩
        refine ⟨_, rfl, fun a169 hA170 => ?_⟩
        refine wl_run 11 2 [19] hA170 rfl (L' := [(19, .bool (!y166))]) (vs := []) (obl := []) (by kernel_rfl) trivial fun a171 hA172 => ?_
        refine wl_end ?_
        obtain rfl := someI h
        exact JK141 _ a171 w167 ex168 (Has.keep hA172 [19] rfl) hk165
    obtain ⟨p138, hv174, h⟩ := bindS h
    cases hb173 : ((y103.2 == 0) && (y103.1 == 4))
    · have hA175 := Has.to (L' := [(13, .bool false)]) hA123 (by rw [hb173])
      replace hv174 := cfalse hb173 hv174
      have hk176 := h
      clear h
      have h := hv174
      refine wl_run 7 2 [15] hA175 rfl (L' := [(15, .bool false)]) (vs := []) (obl := []) (by kernel_rfl) trivial fun a177 hA178 => ?_
      refine wl_end ?_
      obtain rfl := someI h
      exact JK124 _ a177 w104 (Ext.refl _) (Has.keep hA178 [15] rfl) hk176
    · have hA179 := Has.to (L' := [(13, .bool true)]) hA123 (by rw [hb173])
      replace hv174 := ctrue hb173 hv174
      have hk180 := h
      clear h
      have h := hv174
      obtain ⟨y181, hy181, h⟩ := bindS h
      refine wl_call 7 rfl (d := some 14) (g := 10) (args := #[.int .i64 6, .int .i64 6]) hA179 (by kernel_rfl) Try.call10 (mode_Goes_ok n _ _ y181 w104 hy181) ?_
      rintro e w182 ⟨rfl, ex183⟩
      refine ⟨_, rfl, fun a184 hA185 => ?_⟩
      refine wl_run 8 1 [15] hA185 rfl (L' := [(15, .bool y181)]) (vs := []) (obl := []) (by kernel_rfl) trivial fun a186 hA187 => ?_
      refine wl_end ?_
      obtain rfl := someI h
      exact JK124 _ a186 w182 ex183 (Has.keep hA187 [15] rfl) hk180
  cases hb188 : (y103.2 == 0)
  · have hA189 := Has.to (L' := [(1, .int .i64 y103.1), (9, .bool false)]) hA112 (by rw [hb188])
    refine wl_run 3 3 [12] hA189 rfl (L' := [(12, .bool false)]) (vs := []) (obl := []) (by kernel_rfl) trivial fun a191 hA192 => ?_
    refine wl_end ?_
    exact JK113 a191 (Has.to (Has.keep hA192 [12] rfl) (by rw [hb188]; rfl))
  · have hA193 := Has.to (L' := [(1, .int .i64 y103.1), (9, .bool true)]) hA112 (by rw [hb188])
    refine wl_run 3 3 [12] hA193 rfl (L' := [(12, .bool (y103.1 == 4))]) (vs := []) (obl := []) (by kernel_rfl) trivial fun a195 hA196 => ?_
    refine wl_end ?_
    exact JK113 a195 (Has.to (Has.keep hA196 [12] rfl) (by rw [hb188]; rfl))

/-! bursary bursaryref07.Is -/
def ref07_Is (n : Nat) (p0 : Int) : Option Bool :=
  some ((decide (p0 ≥ 0)) && (decide (p0 ≤ 6)))
noncomputable def ref07_Is_c0 : Code := bodyOf Try.f14
noncomputable def ref07_Is_c1 : Code := seqL ref07_Is_c0
noncomputable def ref07_Is_c2 : Code := seqR ref07_Is_c0
noncomputable def ref07_Is_c1o : Array Oper := regO ref07_Is_c1
noncomputable def ref07_Is_c3 : Code := seqL ref07_Is_c2
noncomputable def ref07_Is_c4 : Code := seqR ref07_Is_c2
noncomputable def ref07_Is_c3o : Array Oper := regO ref07_Is_c3
theorem ref07_Is_ok (n : Nat) (p0 : Int) (r : Bool) (w : World)  (h : ref07_Is n p0 = some r) :
    Calls Try.prog 14 #[.int .i64 p0] w fun e w' => e = .returned (.bool r) ∧ Ext w w' := by
  unfold ref07_Is at h
  refine enter 9 Try.func14 rfl (by kernel_rfl) (by simp) fun a hA => ?_
  change ref07_Is_c0.wp _ _ _ _
  refine c_seq ref07_Is_c1 ref07_Is_c2 (by kernel_rfl) fun K27 hK27 => ?_
  refine c_region ref07_Is_c1o 1 (by kernel_rfl) (by kernel_rfl) ?_
  refine wl_run 0 1 [0] hA rfl (L' := [(0, .int .i64 p0)]) (vs := []) (obl := []) (by kernel_rfl) trivial fun a28 hA29 => ?_
  refine wl_end ?_
  refine hK27 _ _ ?_
  refine c_seq ref07_Is_c3 ref07_Is_c4 (by kernel_rfl) fun K30 hK30 => ?_
  refine c_region ref07_Is_c3o 7 (by kernel_rfl) (by kernel_rfl) ?_
  refine wl_run 0 3 [0, 5] hA29 rfl (L' := [(0, .int .i64 p0), (5, .bool (decide (p0 ≥ 0)))]) (vs := []) (obl := []) (by kernel_rfl) trivial fun a31 hA32 => ?_
  refine wl_cut 6 rfl rfl fun K33 hK33 => ?_
  have JK33 : ∀ (a39 : Act), Has a39 9 [(8, .bool ((decide (p0 ≥ 0)) && (decide (p0 ≤ 6))))] → K33 a39 w := by
    intro a39 hA40
    refine hK33 _ _ ?_
    refine wl_run 6 1 [2] hA40 rfl (L' := [(2, .bool ((decide (p0 ≥ 0)) && (decide (p0 ≤ 6))))]) (vs := []) (obl := []) (by kernel_rfl) trivial fun a42 hA43 => ?_
    refine wl_end ?_
    refine hK30 _ _ ?_
    refine c_ret (by kernel_rfl) ?_
    obtain rfl := someI h
    try simp only [Exit.then, Exit.inBlock]
    refine ret1 hA43 2 _ (by kernel_rfl) rfl rfl ?_
    exact ⟨rfl, (Ext.refl _)⟩
  cases hb44 : (decide (p0 ≥ 0))
  · have hA45 := Has.to (L' := [(0, .int .i64 p0), (5, .bool false)]) hA32 (by rw [hb44])
    refine wl_run 3 3 [8] hA45 rfl (L' := [(8, .bool false)]) (vs := []) (obl := []) (by kernel_rfl) trivial fun a47 hA48 => ?_
    refine wl_end ?_
    exact JK33 a47 (Has.to (Has.keep hA48 [8] rfl) (by rw [hb44]; rfl))
  · have hA49 := Has.to (L' := [(0, .int .i64 p0), (5, .bool true)]) hA32 (by rw [hb44])
    refine wl_run 3 3 [8] hA49 rfl (L' := [(8, .bool (decide (p0 ≤ 6)))]) (vs := []) (obl := []) (by kernel_rfl) trivial fun a51 hA52 => ?_
    refine wl_end ?_
    exact JK33 a51 (Has.to (Has.keep hA52 [8] rfl) (by rw [hb44]; rfl))

/-! bursary bursaryref07.pair -/
def ref07_pair (n : Nat) (p0 : Int) (p1 : Int) (p2 : Int) (p3 : Int) : Option Bool :=
  some (((p0 == p2) && (p1 == p3)) || ((p0 == p3) && (p1 == p2)))
noncomputable def ref07_pair_c0 : Code := bodyOf Try.f27
noncomputable def ref07_pair_c1 : Code := seqL ref07_pair_c0
noncomputable def ref07_pair_c2 : Code := seqR ref07_pair_c0
noncomputable def ref07_pair_c1o : Array Oper := regO ref07_pair_c1
noncomputable def ref07_pair_c3 : Code := seqL ref07_pair_c2
noncomputable def ref07_pair_c4 : Code := seqR ref07_pair_c2
noncomputable def ref07_pair_c3o : Array Oper := regO ref07_pair_c3
theorem ref07_pair_ok (n : Nat) (p0 : Int) (p1 : Int) (p2 : Int) (p3 : Int) (r : Bool) (w : World)  (h : ref07_pair n p0 p1 p2 p3 = some r) :
    Calls Try.prog 27 #[.int .i64 p0, .int .i64 p1, .int .i64 p2, .int .i64 p3] w fun e w' => e = .returned (.bool r) ∧ Ext w w' := by
  unfold ref07_pair at h
  refine enter 27 Try.func27 rfl (by kernel_rfl) (by simp) fun a hA => ?_
  change ref07_pair_c0.wp _ _ _ _
  refine c_seq ref07_pair_c1 ref07_pair_c2 (by kernel_rfl) fun K87 hK87 => ?_
  refine c_region ref07_pair_c1o 1 (by kernel_rfl) (by kernel_rfl) ?_
  refine wl_run 0 1 [0, 1, 2, 3] hA rfl (L' := [(0, .int .i64 p0), (1, .int .i64 p1), (2, .int .i64 p2), (3, .int .i64 p3)]) (vs := []) (obl := []) (by kernel_rfl) trivial fun a88 hA89 => ?_
  refine wl_end ?_
  refine hK87 _ _ ?_
  refine c_seq ref07_pair_c3 ref07_pair_c4 (by kernel_rfl) fun K90 hK90 => ?_
  refine c_region ref07_pair_c3o 19 (by kernel_rfl) (by kernel_rfl) ?_
  refine wl_run 0 4 [0, 1, 2, 3, 12] hA89 rfl (L' := [(0, .int .i64 p0), (1, .int .i64 p1), (2, .int .i64 p2), (3, .int .i64 p3), (12, .bool (p0 == p2))]) (vs := []) (obl := []) (by kernel_rfl) trivial fun a91 hA92 => ?_
  refine wl_cut 8 rfl rfl fun K93 hK93 => ?_
  have JK93 : ∀ (a99 : Act), Has a99 27 [(0, .int .i64 p0), (1, .int .i64 p1), (2, .int .i64 p2), (3, .int .i64 p3), (16, .bool ((p0 == p2) && (p1 == p3)))] → K93 a99 w := by
    intro a99 hA100
    refine hK93 _ _ ?_
    refine wl_run 8 1 [0, 1, 2, 3, 17] hA100 rfl (L' := [(0, .int .i64 p0), (1, .int .i64 p1), (2, .int .i64 p2), (3, .int .i64 p3), (17, .bool ((p0 == p2) && (p1 == p3)))]) (vs := []) (obl := []) (by kernel_rfl) trivial fun a102 hA103 => ?_
    refine wl_cut 18 rfl rfl fun K104 hK104 => ?_
    have JK104 : ∀ (a130 : Act), Has a130 27 [(26, .bool (((p0 == p2) && (p1 == p3)) || ((p0 == p3) && (p1 == p2))))] → K104 a130 w := by
      intro a130 hA131
      refine hK104 _ _ ?_
      refine wl_run 18 1 [8] hA131 rfl (L' := [(8, .bool (((p0 == p2) && (p1 == p3)) || ((p0 == p3) && (p1 == p2))))]) (vs := []) (obl := []) (by kernel_rfl) trivial fun a133 hA134 => ?_
      refine wl_end ?_
      refine hK90 _ _ ?_
      refine c_ret (by kernel_rfl) ?_
      obtain rfl := someI h
      try simp only [Exit.then, Exit.inBlock]
      refine ret1 hA134 8 _ (by kernel_rfl) rfl rfl ?_
      exact ⟨rfl, (Ext.refl _)⟩
    cases hb135 : ((p0 == p2) && (p1 == p3))
    · have hA136 := Has.to (L' := [(0, .int .i64 p0), (1, .int .i64 p1), (2, .int .i64 p2), (3, .int .i64 p3), (17, .bool false)]) hA103 (by rw [hb135])
      refine wl_run 9 4 [1, 2, 17, 21] hA136 rfl (L' := [(1, .int .i64 p1), (2, .int .i64 p2), (17, .bool false), (21, .bool (p0 == p3))]) (vs := []) (obl := []) (by kernel_rfl) trivial fun a138 hA139 => ?_
      refine wl_cut 17 rfl rfl fun K140 hK140 => ?_
      have JK140 : ∀ (a146 : Act), Has a146 27 [(17, .bool false), (25, .bool ((p0 == p3) && (p1 == p2)))] → K140 a146 w := by
        intro a146 hA147
        refine hK140 _ _ ?_
        refine wl_run 17 1 [26] hA147 rfl (L' := [(26, .bool ((p0 == p3) && (p1 == p2)))]) (vs := []) (obl := []) (by kernel_rfl) trivial fun a149 hA150 => ?_
        refine wl_end ?_
        exact JK104 a149 (Has.to (Has.keep hA150 [26] rfl) (by rw [hb135]; rfl))
      cases hb151 : (p0 == p3)
      · have hA152 := Has.to (L' := [(1, .int .i64 p1), (2, .int .i64 p2), (17, .bool false), (21, .bool false)]) hA139 (by rw [hb151])
        refine wl_run 13 4 [17, 25] hA152 rfl (L' := [(17, .bool false), (25, .bool false)]) (vs := []) (obl := []) (by kernel_rfl) trivial fun a154 hA155 => ?_
        refine wl_end ?_
        exact JK140 a154 (Has.to (Has.keep hA155 [17, 25] rfl) (by rw [hb151]; rfl))
      · have hA156 := Has.to (L' := [(1, .int .i64 p1), (2, .int .i64 p2), (17, .bool false), (21, .bool true)]) hA139 (by rw [hb151])
        refine wl_run 13 4 [17, 25] hA156 rfl (L' := [(17, .bool false), (25, .bool (p1 == p2))]) (vs := []) (obl := []) (by kernel_rfl) trivial fun a158 hA159 => ?_
        refine wl_end ?_
        exact JK140 a158 (Has.to (Has.keep hA159 [17, 25] rfl) (by rw [hb151]; rfl))
    · have hA160 := Has.to (L' := [(0, .int .i64 p0), (1, .int .i64 p1), (2, .int .i64 p2), (3, .int .i64 p3), (17, .bool true)]) hA103 (by rw [hb135])
      refine wl_run 9 9 [26] hA160 rfl (L' := [(26, .bool true)]) (vs := []) (obl := []) (by kernel_rfl) trivial fun a162 hA163 => ?_
      refine wl_end ?_
      exact JK104 a162 (Has.to (Has.keep hA163 [26] rfl) (by rw [hb135]; rfl))
  cases hb164 : (p0 == p2)
  · have hA165 := Has.to (L' := [(0, .int .i64 p0), (1, .int .i64 p1), (2, .int .i64 p2), (3, .int .i64 p3), (12, .bool false)]) hA92 (by rw [hb164])
    refine wl_run 4 4 [0, 1, 2, 3, 16] hA165 rfl (L' := [(0, .int .i64 p0), (1, .int .i64 p1), (2, .int .i64 p2), (3, .int .i64 p3), (16, .bool false)]) (vs := []) (obl := []) (by kernel_rfl) trivial fun a167 hA168 => ?_
    refine wl_end ?_
    exact JK93 a167 (Has.to (Has.keep hA168 [0, 1, 2, 3, 16] rfl) (by rw [hb164]; rfl))
  · have hA169 := Has.to (L' := [(0, .int .i64 p0), (1, .int .i64 p1), (2, .int .i64 p2), (3, .int .i64 p3), (12, .bool true)]) hA92 (by rw [hb164])
    refine wl_run 4 4 [0, 1, 2, 3, 16] hA169 rfl (L' := [(0, .int .i64 p0), (1, .int .i64 p1), (2, .int .i64 p2), (3, .int .i64 p3), (16, .bool (p1 == p3))]) (vs := []) (obl := []) (by kernel_rfl) trivial fun a171 hA172 => ?_
    refine wl_end ?_
    exact JK93 a171 (Has.to (Has.keep hA172 [0, 1, 2, 3, 16] rfl) (by rw [hb164]; rfl))

/-! bursary bursaryref07.Goes -/
def ref07_Goes_j1 (n : Nat)  (p478 : Bool) : Option Bool :=
  some p478
def ref07_Goes_j2 (n : Nat) (p0 : Int) (p1 : Int) (p459 : Bool) : Option Bool :=
  (cond p459
  (some true)
  ((ref07_pair n p0 p1 6 6).bind fun y487 =>
  some y487)).bind fun p478 =>
  ref07_Goes_j1 n p478
def ref07_Goes_j3 (n : Nat) (p0 : Int) (p1 : Int) (p440 : Bool) : Option Bool :=
  (cond p440
  (some true)
  ((ref07_pair n p0 p1 3 3).bind fun y504 =>
  some y504)).bind fun p459 =>
  ref07_Goes_j2 n p0 p1 p459
def ref07_Goes_j4 (n : Nat) (p0 : Int) (p1 : Int) (p421 : Bool) : Option Bool :=
  (cond p421
  (some true)
  ((ref07_pair n p0 p1 2 2).bind fun y521 =>
  some y521)).bind fun p440 =>
  ref07_Goes_j3 n p0 p1 p440
def ref07_Goes_j5 (n : Nat) (p0 : Int) (p1 : Int) (p402 : Bool) : Option Bool :=
  (cond p402
  (some true)
  ((ref07_pair n p0 p1 1 4).bind fun y538 =>
  some y538)).bind fun p421 =>
  ref07_Goes_j4 n p0 p1 p421
def ref07_Goes_j6 (n : Nat) (p0 : Int) (p1 : Int) (p383 : Bool) : Option Bool :=
  (cond p383
  (some true)
  ((ref07_pair n p0 p1 1 3).bind fun y555 =>
  some y555)).bind fun p402 =>
  ref07_Goes_j5 n p0 p1 p402
def ref07_Goes_j7 (n : Nat) (p0 : Int) (p1 : Int) (p335 : Bool) : Option Bool :=
  cond p335
    (some false)
    (cond ((p0 == 0) || (p1 == 0))
      (some true)
      ((ref07_pair n p0 p1 1 1).bind fun y360 =>
      (cond y360
  (some true)
  ((ref07_pair n p0 p1 1 2).bind fun y572 =>
  some y572)).bind fun p383 =>
      ref07_Goes_j6 n p0 p1 p383))
def ref07_Goes (n : Nat) (p0 : Int) (p1 : Int) : Option Bool :=
  (ref07_Is n p0).bind fun y312 =>
  (cond (!y312)
  (some true)
  ((ref07_Is n p1).bind fun y598 =>
  some (!y598))).bind fun p335 =>
  ref07_Goes_j7 n p0 p1 p335
noncomputable def ref07_Goes_c0 : Code := bodyOf Try.f11
noncomputable def ref07_Goes_c1 : Code := seqL ref07_Goes_c0
noncomputable def ref07_Goes_c2 : Code := seqR ref07_Goes_c0
noncomputable def ref07_Goes_c1o : Array Oper := regO ref07_Goes_c1
noncomputable def ref07_Goes_c3 : Code := seqL ref07_Goes_c2
noncomputable def ref07_Goes_c4 : Code := seqR ref07_Goes_c2
noncomputable def ref07_Goes_c5 : Code := seqL ref07_Goes_c3
noncomputable def ref07_Goes_c6 : Code := seqR ref07_Goes_c3
noncomputable def ref07_Goes_c5o : Array Oper := regO ref07_Goes_c5
noncomputable def ref07_Goes_c7 : Code := condT ref07_Goes_c6
noncomputable def ref07_Goes_c8 : Code := condE ref07_Goes_c6
noncomputable def ref07_Goes_c9 : Code := seqL ref07_Goes_c7
noncomputable def ref07_Goes_c10 : Code := seqR ref07_Goes_c7
noncomputable def ref07_Goes_c9o : Array Oper := regO ref07_Goes_c9
noncomputable def ref07_Goes_c11 : Code := seqL ref07_Goes_c4
noncomputable def ref07_Goes_c12 : Code := seqR ref07_Goes_c4
noncomputable def ref07_Goes_c13 : Code := seqL ref07_Goes_c11
noncomputable def ref07_Goes_c14 : Code := seqR ref07_Goes_c11
noncomputable def ref07_Goes_c13o : Array Oper := regO ref07_Goes_c13
noncomputable def ref07_Goes_c15 : Code := condT ref07_Goes_c14
noncomputable def ref07_Goes_c16 : Code := condE ref07_Goes_c14
noncomputable def ref07_Goes_c17 : Code := seqL ref07_Goes_c15
noncomputable def ref07_Goes_c18 : Code := seqR ref07_Goes_c15
noncomputable def ref07_Goes_c17o : Array Oper := regO ref07_Goes_c17
noncomputable def ref07_Goes_c19 : Code := seqL ref07_Goes_c12
noncomputable def ref07_Goes_c20 : Code := seqR ref07_Goes_c12
noncomputable def ref07_Goes_c19o : Array Oper := regO ref07_Goes_c19
theorem ref07_Goes_ok (n : Nat) (p0 : Int) (p1 : Int) (r : Bool) (w : World)  (h : ref07_Goes n p0 p1 = some r) :
    Calls Try.prog 11 #[.int .i64 p0, .int .i64 p1] w fun e w' => e = .returned (.bool r) ∧ Ext w w' := by
  unfold ref07_Goes at h
  refine enter 52 Try.func11 rfl (by kernel_rfl) (by simp) fun a hA => ?_
  change ref07_Goes_c0.wp _ _ _ _
  refine c_seq ref07_Goes_c1 ref07_Goes_c2 (by kernel_rfl) fun K305 hK305 => ?_
  refine c_region ref07_Goes_c1o 1 (by kernel_rfl) (by kernel_rfl) ?_
  refine wl_run 0 1 [0, 1] hA rfl (L' := [(0, .int .i64 p0), (1, .int .i64 p1)]) (vs := []) (obl := []) (by kernel_rfl) trivial fun a306 hA307 => ?_
  refine wl_end ?_
  refine hK305 _ _ ?_
  refine c_seq ref07_Goes_c3 ref07_Goes_c4 (by kernel_rfl) fun K308 hK308 => ?_
  refine c_seq ref07_Goes_c5 ref07_Goes_c6 (by kernel_rfl) fun K309 hK309 => ?_
  refine c_region ref07_Goes_c5o 8 (by kernel_rfl) (by kernel_rfl) ?_
  refine wl_run 0 1 [0, 1, 5] hA307 rfl (L' := [(0, .int .i64 p0), (1, .int .i64 p1), (5, .int .i64 p0)]) (vs := []) (obl := []) (by kernel_rfl) trivial fun a310 hA311 => ?_
  obtain ⟨y312, hy312, h⟩ := bindS h
  refine wl_call 1 rfl (d := some 6) (g := 14) (args := #[.int .i64 p0]) hA311 (by kernel_rfl) Try.call14 (ref07_Is_ok n _ y312 w hy312) ?_
  rintro e w313 ⟨rfl, ex314⟩
  refine ⟨_, rfl, fun a315 hA316 => ?_⟩
  refine wl_run 2 2 [0, 1, 8] hA316 rfl (L' := [(0, .int .i64 p0), (1, .int .i64 p1), (8, .bool (!y312))]) (vs := []) (obl := []) (by kernel_rfl) trivial fun a317 hA318 => ?_
  refine wl_cut 8 rfl rfl fun K319 hK319 => ?_
  have JK319 : ∀ (p335 : Bool) (a332 : Act) (w331 : World), Ext w313 w331 → Has a332 52 [(0, .int .i64 p0), (1, .int .i64 p1), (12, .bool p335)] → ref07_Goes_j7 n p0 p1 p335 = some r → K319 a332 w331 := by
    intro p335 a332 w331 ex334 hA333 h
    unfold ref07_Goes_j7 at h
    refine hK319 _ _ ?_
    refine wl_end ?_
    refine hK309 _ _ ?_
    refine c_cond ref07_Goes_c7 ref07_Goes_c8 (condX ref07_Goes_c6) p335 hA333 (by kernel_rfl) (by kernel_rfl) (by kernel_rfl) (fun hb336 => ?_) (fun hb336 => ?_)
    · replace h := ctrue hb336 h
      refine c_seq ref07_Goes_c9 ref07_Goes_c10 (by kernel_rfl) fun K337 hK337 => ?_
      refine c_region ref07_Goes_c9o 1 (by kernel_rfl) (by kernel_rfl) ?_
      refine wl_run 0 1 [4] hA333 rfl (L' := [(4, .bool false)]) (vs := []) (obl := []) (by kernel_rfl) trivial fun a338 hA339 => ?_
      refine wl_end ?_
      refine hK337 _ _ ?_
      refine c_ret (by kernel_rfl) ?_
      obtain rfl := someI h
      try simp only [Exit.then, Exit.inBlock]
      refine ret1 hA339 4 _ (by kernel_rfl) rfl rfl ?_
      exact ⟨rfl, (Ext.trans ex314 ex334)⟩
    · replace h := cfalse hb336 h
      refine c_skip (by kernel_rfl) ?_
      refine hK308 _ _ ?_
      refine c_seq ref07_Goes_c11 ref07_Goes_c12 (by kernel_rfl) fun K340 hK340 => ?_
      refine c_seq ref07_Goes_c13 ref07_Goes_c14 (by kernel_rfl) fun K341 hK341 => ?_
      refine c_region ref07_Goes_c13o 6 (by kernel_rfl) (by kernel_rfl) ?_
      refine wl_run 0 3 [0, 1, 15] hA333 rfl (L' := [(0, .int .i64 p0), (1, .int .i64 p1), (15, .bool (p0 == 0))]) (vs := []) (obl := []) (by kernel_rfl) trivial fun a342 hA343 => ?_
      refine wl_cut 6 rfl rfl fun K344 hK344 => ?_
      have JK344 : ∀ (a350 : Act), Has a350 52 [(0, .int .i64 p0), (1, .int .i64 p1), (18, .bool ((p0 == 0) || (p1 == 0)))] → K344 a350 w331 := by
        intro a350 hA351
        refine hK344 _ _ ?_
        refine wl_end ?_
        refine hK341 _ _ ?_
        refine c_cond ref07_Goes_c15 ref07_Goes_c16 (condX ref07_Goes_c14) ((p0 == 0) || (p1 == 0)) hA351 (by kernel_rfl) (by kernel_rfl) (by kernel_rfl) (fun hb353 => ?_) (fun hb353 => ?_)
        · replace h := ctrue hb353 h
          refine c_seq ref07_Goes_c17 ref07_Goes_c18 (by kernel_rfl) fun K354 hK354 => ?_
          refine c_region ref07_Goes_c17o 1 (by kernel_rfl) (by kernel_rfl) ?_
          refine wl_run 0 1 [4] hA351 rfl (L' := [(4, .bool true)]) (vs := []) (obl := []) (by kernel_rfl) trivial fun a355 hA356 => ?_
          refine wl_end ?_
          refine hK354 _ _ ?_
          refine c_ret (by kernel_rfl) ?_
          obtain rfl := someI h
          try simp only [Exit.then, Exit.inBlock]
          refine ret1 hA356 4 _ (by kernel_rfl) rfl rfl ?_
          exact ⟨rfl, (Ext.trans ex314 ex334)⟩
        · replace h := cfalse hb353 h
          refine c_skip (by kernel_rfl) ?_
          refine hK340 _ _ ?_
          refine c_seq ref07_Goes_c19 ref07_Goes_c20 (by kernel_rfl) fun K357 hK357 => ?_
          refine c_region ref07_Goes_c19o 34 (by kernel_rfl) (by kernel_rfl) ?_
          refine wl_run 0 2 [0, 1, 19, 20] hA351 rfl (L' := [(0, .int .i64 p0), (1, .int .i64 p1), (19, .int .i64 p0), (20, .int .i64 p1)]) (vs := []) (obl := []) (by kernel_rfl) trivial fun a358 hA359 => ?_
          obtain ⟨y360, hy360, h⟩ := bindS h
          refine wl_call 2 rfl (d := some 21) (g := 27) (args := #[.int .i64 p0, .int .i64 p1, .int .i64 1, .int .i64 1]) hA359 (by kernel_rfl) Try.call27 (ref07_pair_ok n _ _ _ _ y360 w331 hy360) ?_
          rintro e w361 ⟨rfl, ex362⟩
          refine ⟨_, rfl, fun a363 hA364 => ?_⟩
          refine wl_run 3 1 [0, 1, 22] hA364 rfl (L' := [(0, .int .i64 p0), (1, .int .i64 p1), (22, .bool y360)]) (vs := []) (obl := []) (by kernel_rfl) trivial fun a365 hA366 => ?_
          refine wl_cut 8 rfl rfl fun K367 hK367 => ?_
          have JK367 : ∀ (p383 : Bool) (a380 : Act) (w379 : World), Ext w361 w379 → Has a380 52 [(0, .int .i64 p0), (1, .int .i64 p1), (26, .bool p383)] → ref07_Goes_j6 n p0 p1 p383 = some r → K367 a380 w379 := by
            intro p383 a380 w379 ex382 hA381 h
            unfold ref07_Goes_j6 at h
            refine hK367 _ _ ?_
            refine wl_run 8 1 [0, 1, 27] hA381 rfl (L' := [(0, .int .i64 p0), (1, .int .i64 p1), (27, .bool p383)]) (vs := []) (obl := []) (by kernel_rfl) trivial fun a384 hA385 => ?_
            refine wl_cut 13 rfl rfl fun K386 hK386 => ?_
            have JK386 : ∀ (p402 : Bool) (a399 : Act) (w398 : World), Ext w379 w398 → Has a399 52 [(0, .int .i64 p0), (1, .int .i64 p1), (31, .bool p402)] → ref07_Goes_j5 n p0 p1 p402 = some r → K386 a399 w398 := by
              intro p402 a399 w398 ex401 hA400 h
              unfold ref07_Goes_j5 at h
              refine hK386 _ _ ?_
              refine wl_run 13 1 [0, 1, 32] hA400 rfl (L' := [(0, .int .i64 p0), (1, .int .i64 p1), (32, .bool p402)]) (vs := []) (obl := []) (by kernel_rfl) trivial fun a403 hA404 => ?_
              refine wl_cut 18 rfl rfl fun K405 hK405 => ?_
              have JK405 : ∀ (p421 : Bool) (a418 : Act) (w417 : World), Ext w398 w417 → Has a418 52 [(0, .int .i64 p0), (1, .int .i64 p1), (36, .bool p421)] → ref07_Goes_j4 n p0 p1 p421 = some r → K405 a418 w417 := by
                intro p421 a418 w417 ex420 hA419 h
                unfold ref07_Goes_j4 at h
                refine hK405 _ _ ?_
                refine wl_run 18 1 [0, 1, 37] hA419 rfl (L' := [(0, .int .i64 p0), (1, .int .i64 p1), (37, .bool p421)]) (vs := []) (obl := []) (by kernel_rfl) trivial fun a422 hA423 => ?_
                refine wl_cut 23 rfl rfl fun K424 hK424 => ?_
                have JK424 : ∀ (p440 : Bool) (a437 : Act) (w436 : World), Ext w417 w436 → Has a437 52 [(0, .int .i64 p0), (1, .int .i64 p1), (41, .bool p440)] → ref07_Goes_j3 n p0 p1 p440 = some r → K424 a437 w436 := by
                  intro p440 a437 w436 ex439 hA438 h
                  unfold ref07_Goes_j3 at h
                  refine hK424 _ _ ?_
                  refine wl_run 23 1 [0, 1, 42] hA438 rfl (L' := [(0, .int .i64 p0), (1, .int .i64 p1), (42, .bool p440)]) (vs := []) (obl := []) (by kernel_rfl) trivial fun a441 hA442 => ?_
                  refine wl_cut 28 rfl rfl fun K443 hK443 => ?_
                  have JK443 : ∀ (p459 : Bool) (a456 : Act) (w455 : World), Ext w436 w455 → Has a456 52 [(0, .int .i64 p0), (1, .int .i64 p1), (46, .bool p459)] → ref07_Goes_j2 n p0 p1 p459 = some r → K443 a456 w455 := by
                    intro p459 a456 w455 ex458 hA457 h
                    unfold ref07_Goes_j2 at h
                    refine hK443 _ _ ?_
                    refine wl_run 28 1 [0, 1, 47] hA457 rfl (L' := [(0, .int .i64 p0), (1, .int .i64 p1), (47, .bool p459)]) (vs := []) (obl := []) (by kernel_rfl) trivial fun a460 hA461 => ?_
                    refine wl_cut 33 rfl rfl fun K462 hK462 => ?_
                    have JK462 : ∀ (p478 : Bool) (a475 : Act) (w474 : World), Ext w455 w474 → Has a475 52 [(51, .bool p478)] → ref07_Goes_j1 n p478 = some r → K462 a475 w474 := by
                      intro p478 a475 w474 ex477 hA476 h
                      unfold ref07_Goes_j1 at h
                      refine hK462 _ _ ?_
                      refine wl_run 33 1 [4] hA476 rfl (L' := [(4, .bool p478)]) (vs := []) (obl := []) (by kernel_rfl) trivial fun a479 hA480 => ?_
                      refine wl_end ?_
                      refine hK357 _ _ ?_
                      refine c_ret (by kernel_rfl) ?_
                      obtain rfl := someI h
                      try simp only [Exit.then, Exit.inBlock]
                      refine ret1 hA480 4 _ (by kernel_rfl) rfl rfl ?_
                      exact ⟨rfl, (Ext.trans (Ext.trans (Ext.trans (Ext.trans (Ext.trans (Ext.trans (Ext.trans (Ext.trans ex314 ex334) ex362) ex382) ex401) ex420) ex439) ex458) ex477)⟩
                    obtain ⟨p478, hv482, h⟩ := bindS h
                    cases hb481 : p459
                    · have hA483 := Has.to (L' := [(0, .int .i64 p0), (1, .int .i64 p1), (47, .bool false)]) hA461 (by rw [hb481])
                      replace hv482 := cfalse hb481 hv482
                      have hk484 := h
                      clear h
                      have h := hv482
                      refine wl_run 29 2 [47, 48, 49] hA483 rfl (L' := [(47, .bool false), (48, .int .i64 p0), (49, .int .i64 p1)]) (vs := []) (obl := []) (by kernel_rfl) trivial fun a485 hA486 => ?_
                      obtain ⟨y487, hy487, h⟩ := bindS h
                      refine wl_call 31 rfl (d := some 50) (g := 27) (args := #[.int .i64 p0, .int .i64 p1, .int .i64 6, .int .i64 6]) hA486 (by kernel_rfl) Try.call27 (ref07_pair_ok n _ _ _ _ y487 w455 hy487) ?_
                      rintro e w488 ⟨rfl, ex489⟩
                      refine ⟨_, rfl, fun a490 hA491 => ?_⟩
                      refine wl_run 32 1 [51] hA491 rfl (L' := [(51, .bool y487)]) (vs := []) (obl := []) (by kernel_rfl) trivial fun a492 hA493 => ?_
                      refine wl_end ?_
                      obtain rfl := someI h
                      exact JK462 _ a492 w488 ex489 (Has.keep hA493 [51] rfl) hk484
                    · have hA494 := Has.to (L' := [(0, .int .i64 p0), (1, .int .i64 p1), (47, .bool true)]) hA461 (by rw [hb481])
                      replace hv482 := ctrue hb481 hv482
                      have hk495 := h
                      clear h
                      have h := hv482
                      refine wl_run 29 4 [51] hA494 rfl (L' := [(51, .bool true)]) (vs := []) (obl := []) (by kernel_rfl) trivial fun a496 hA497 => ?_
                      refine wl_end ?_
                      obtain rfl := someI h
                      exact JK462 _ a496 w455 (Ext.refl _) (Has.keep hA497 [51] rfl) hk495
                  obtain ⟨p459, hv499, h⟩ := bindS h
                  cases hb498 : p440
                  · have hA500 := Has.to (L' := [(0, .int .i64 p0), (1, .int .i64 p1), (42, .bool false)]) hA442 (by rw [hb498])
                    replace hv499 := cfalse hb498 hv499
                    have hk501 := h
                    clear h
                    have h := hv499
                    refine wl_run 24 2 [0, 1, 42, 43, 44] hA500 rfl (L' := [(0, .int .i64 p0), (1, .int .i64 p1), (42, .bool false), (43, .int .i64 p0), (44, .int .i64 p1)]) (vs := []) (obl := []) (by kernel_rfl) trivial fun a502 hA503 => ?_
                    obtain ⟨y504, hy504, h⟩ := bindS h
                    refine wl_call 26 rfl (d := some 45) (g := 27) (args := #[.int .i64 p0, .int .i64 p1, .int .i64 3, .int .i64 3]) hA503 (by kernel_rfl) Try.call27 (ref07_pair_ok n _ _ _ _ y504 w436 hy504) ?_
                    rintro e w505 ⟨rfl, ex506⟩
                    refine ⟨_, rfl, fun a507 hA508 => ?_⟩
                    refine wl_run 27 1 [0, 1, 46] hA508 rfl (L' := [(0, .int .i64 p0), (1, .int .i64 p1), (46, .bool y504)]) (vs := []) (obl := []) (by kernel_rfl) trivial fun a509 hA510 => ?_
                    refine wl_end ?_
                    obtain rfl := someI h
                    exact JK443 _ a509 w505 ex506 (Has.keep hA510 [0, 1, 46] rfl) hk501
                  · have hA511 := Has.to (L' := [(0, .int .i64 p0), (1, .int .i64 p1), (42, .bool true)]) hA442 (by rw [hb498])
                    replace hv499 := ctrue hb498 hv499
                    have hk512 := h
                    clear h
                    have h := hv499
                    refine wl_run 24 4 [0, 1, 46] hA511 rfl (L' := [(0, .int .i64 p0), (1, .int .i64 p1), (46, .bool true)]) (vs := []) (obl := []) (by kernel_rfl) trivial fun a513 hA514 => ?_
                    refine wl_end ?_
                    obtain rfl := someI h
                    exact JK443 _ a513 w436 (Ext.refl _) (Has.keep hA514 [0, 1, 46] rfl) hk512
                obtain ⟨p440, hv516, h⟩ := bindS h
                cases hb515 : p421
                · have hA517 := Has.to (L' := [(0, .int .i64 p0), (1, .int .i64 p1), (37, .bool false)]) hA423 (by rw [hb515])
                  replace hv516 := cfalse hb515 hv516
                  have hk518 := h
                  clear h
                  have h := hv516
                  refine wl_run 19 2 [0, 1, 37, 38, 39] hA517 rfl (L' := [(0, .int .i64 p0), (1, .int .i64 p1), (37, .bool false), (38, .int .i64 p0), (39, .int .i64 p1)]) (vs := []) (obl := []) (by kernel_rfl) trivial fun a519 hA520 => ?_
                  obtain ⟨y521, hy521, h⟩ := bindS h
                  refine wl_call 21 rfl (d := some 40) (g := 27) (args := #[.int .i64 p0, .int .i64 p1, .int .i64 2, .int .i64 2]) hA520 (by kernel_rfl) Try.call27 (ref07_pair_ok n _ _ _ _ y521 w417 hy521) ?_
                  rintro e w522 ⟨rfl, ex523⟩
                  refine ⟨_, rfl, fun a524 hA525 => ?_⟩
                  refine wl_run 22 1 [0, 1, 41] hA525 rfl (L' := [(0, .int .i64 p0), (1, .int .i64 p1), (41, .bool y521)]) (vs := []) (obl := []) (by kernel_rfl) trivial fun a526 hA527 => ?_
                  refine wl_end ?_
                  obtain rfl := someI h
                  exact JK424 _ a526 w522 ex523 (Has.keep hA527 [0, 1, 41] rfl) hk518
                · have hA528 := Has.to (L' := [(0, .int .i64 p0), (1, .int .i64 p1), (37, .bool true)]) hA423 (by rw [hb515])
                  replace hv516 := ctrue hb515 hv516
                  have hk529 := h
                  clear h
                  have h := hv516
                  refine wl_run 19 4 [0, 1, 41] hA528 rfl (L' := [(0, .int .i64 p0), (1, .int .i64 p1), (41, .bool true)]) (vs := []) (obl := []) (by kernel_rfl) trivial fun a530 hA531 => ?_
                  refine wl_end ?_
                  obtain rfl := someI h
                  exact JK424 _ a530 w417 (Ext.refl _) (Has.keep hA531 [0, 1, 41] rfl) hk529
              obtain ⟨p421, hv533, h⟩ := bindS h
              cases hb532 : p402
              · have hA534 := Has.to (L' := [(0, .int .i64 p0), (1, .int .i64 p1), (32, .bool false)]) hA404 (by rw [hb532])
                replace hv533 := cfalse hb532 hv533
                have hk535 := h
                clear h
                have h := hv533
                refine wl_run 14 2 [0, 1, 32, 33, 34] hA534 rfl (L' := [(0, .int .i64 p0), (1, .int .i64 p1), (32, .bool false), (33, .int .i64 p0), (34, .int .i64 p1)]) (vs := []) (obl := []) (by kernel_rfl) trivial fun a536 hA537 => ?_
                obtain ⟨y538, hy538, h⟩ := bindS h
                refine wl_call 16 rfl (d := some 35) (g := 27) (args := #[.int .i64 p0, .int .i64 p1, .int .i64 1, .int .i64 4]) hA537 (by kernel_rfl) Try.call27 (ref07_pair_ok n _ _ _ _ y538 w398 hy538) ?_
                rintro e w539 ⟨rfl, ex540⟩
                refine ⟨_, rfl, fun a541 hA542 => ?_⟩
                refine wl_run 17 1 [0, 1, 36] hA542 rfl (L' := [(0, .int .i64 p0), (1, .int .i64 p1), (36, .bool y538)]) (vs := []) (obl := []) (by kernel_rfl) trivial fun a543 hA544 => ?_
                refine wl_end ?_
                obtain rfl := someI h
                exact JK405 _ a543 w539 ex540 (Has.keep hA544 [0, 1, 36] rfl) hk535
              · have hA545 := Has.to (L' := [(0, .int .i64 p0), (1, .int .i64 p1), (32, .bool true)]) hA404 (by rw [hb532])
                replace hv533 := ctrue hb532 hv533
                have hk546 := h
                clear h
                have h := hv533
                refine wl_run 14 4 [0, 1, 36] hA545 rfl (L' := [(0, .int .i64 p0), (1, .int .i64 p1), (36, .bool true)]) (vs := []) (obl := []) (by kernel_rfl) trivial fun a547 hA548 => ?_
                refine wl_end ?_
                obtain rfl := someI h
                exact JK405 _ a547 w398 (Ext.refl _) (Has.keep hA548 [0, 1, 36] rfl) hk546
            obtain ⟨p402, hv550, h⟩ := bindS h
            cases hb549 : p383
            · have hA551 := Has.to (L' := [(0, .int .i64 p0), (1, .int .i64 p1), (27, .bool false)]) hA385 (by rw [hb549])
              replace hv550 := cfalse hb549 hv550
              have hk552 := h
              clear h
              have h := hv550
              refine wl_run 9 2 [0, 1, 27, 28, 29] hA551 rfl (L' := [(0, .int .i64 p0), (1, .int .i64 p1), (27, .bool false), (28, .int .i64 p0), (29, .int .i64 p1)]) (vs := []) (obl := []) (by kernel_rfl) trivial fun a553 hA554 => ?_
              obtain ⟨y555, hy555, h⟩ := bindS h
              refine wl_call 11 rfl (d := some 30) (g := 27) (args := #[.int .i64 p0, .int .i64 p1, .int .i64 1, .int .i64 3]) hA554 (by kernel_rfl) Try.call27 (ref07_pair_ok n _ _ _ _ y555 w379 hy555) ?_
              rintro e w556 ⟨rfl, ex557⟩
              refine ⟨_, rfl, fun a558 hA559 => ?_⟩
              refine wl_run 12 1 [0, 1, 31] hA559 rfl (L' := [(0, .int .i64 p0), (1, .int .i64 p1), (31, .bool y555)]) (vs := []) (obl := []) (by kernel_rfl) trivial fun a560 hA561 => ?_
              refine wl_end ?_
              obtain rfl := someI h
              exact JK386 _ a560 w556 ex557 (Has.keep hA561 [0, 1, 31] rfl) hk552
            · have hA562 := Has.to (L' := [(0, .int .i64 p0), (1, .int .i64 p1), (27, .bool true)]) hA385 (by rw [hb549])
              replace hv550 := ctrue hb549 hv550
              have hk563 := h
              clear h
              have h := hv550
              refine wl_run 9 4 [0, 1, 31] hA562 rfl (L' := [(0, .int .i64 p0), (1, .int .i64 p1), (31, .bool true)]) (vs := []) (obl := []) (by kernel_rfl) trivial fun a564 hA565 => ?_
              refine wl_end ?_
              obtain rfl := someI h
              exact JK386 _ a564 w379 (Ext.refl _) (Has.keep hA565 [0, 1, 31] rfl) hk563
          obtain ⟨p383, hv567, h⟩ := bindS h
          cases hb566 : y360
          · have hA568 := Has.to (L' := [(0, .int .i64 p0), (1, .int .i64 p1), (22, .bool false)]) hA366 (by rw [hb566])
            replace hv567 := cfalse hb566 hv567
            have hk569 := h
            clear h
            have h := hv567
            refine wl_run 4 2 [0, 1, 22, 23, 24] hA568 rfl (L' := [(0, .int .i64 p0), (1, .int .i64 p1), (22, .bool false), (23, .int .i64 p0), (24, .int .i64 p1)]) (vs := []) (obl := []) (by kernel_rfl) trivial fun a570 hA571 => ?_
            obtain ⟨y572, hy572, h⟩ := bindS h
            refine wl_call 6 rfl (d := some 25) (g := 27) (args := #[.int .i64 p0, .int .i64 p1, .int .i64 1, .int .i64 2]) hA571 (by kernel_rfl) Try.call27 (ref07_pair_ok n _ _ _ _ y572 w361 hy572) ?_
            rintro e w573 ⟨rfl, ex574⟩
            refine ⟨_, rfl, fun a575 hA576 => ?_⟩
            refine wl_run 7 1 [0, 1, 26] hA576 rfl (L' := [(0, .int .i64 p0), (1, .int .i64 p1), (26, .bool y572)]) (vs := []) (obl := []) (by kernel_rfl) trivial fun a577 hA578 => ?_
            refine wl_end ?_
            obtain rfl := someI h
            exact JK367 _ a577 w573 ex574 (Has.keep hA578 [0, 1, 26] rfl) hk569
          · have hA579 := Has.to (L' := [(0, .int .i64 p0), (1, .int .i64 p1), (22, .bool true)]) hA366 (by rw [hb566])
            replace hv567 := ctrue hb566 hv567
            have hk580 := h
            clear h
            have h := hv567
            refine wl_run 4 4 [0, 1, 26] hA579 rfl (L' := [(0, .int .i64 p0), (1, .int .i64 p1), (26, .bool true)]) (vs := []) (obl := []) (by kernel_rfl) trivial fun a581 hA582 => ?_
            refine wl_end ?_
            obtain rfl := someI h
            exact JK367 _ a581 w361 (Ext.refl _) (Has.keep hA582 [0, 1, 26] rfl) hk580
      cases hb583 : (p0 == 0)
      · have hA584 := Has.to (L' := [(0, .int .i64 p0), (1, .int .i64 p1), (15, .bool false)]) hA343 (by rw [hb583])
        refine wl_run 3 3 [0, 1, 18] hA584 rfl (L' := [(0, .int .i64 p0), (1, .int .i64 p1), (18, .bool (p1 == 0))]) (vs := []) (obl := []) (by kernel_rfl) trivial fun a586 hA587 => ?_
        refine wl_end ?_
        exact JK344 a586 (Has.to (Has.keep hA587 [0, 1, 18] rfl) (by rw [hb583]; rfl))
      · have hA588 := Has.to (L' := [(0, .int .i64 p0), (1, .int .i64 p1), (15, .bool true)]) hA343 (by rw [hb583])
        refine wl_run 3 3 [0, 1, 18] hA588 rfl (L' := [(0, .int .i64 p0), (1, .int .i64 p1), (18, .bool true)]) (vs := []) (obl := []) (by kernel_rfl) trivial fun a590 hA591 => ?_
        refine wl_end ?_
        exact JK344 a590 (Has.to (Has.keep hA591 [0, 1, 18] rfl) (by rw [hb583]; rfl))
  obtain ⟨p335, hv593, h⟩ := bindS h
  cases hb592 : (!y312)
  · have hA594 := Has.to (L' := [(0, .int .i64 p0), (1, .int .i64 p1), (8, .bool false)]) hA318 (by rw [hb592])
    replace hv593 := cfalse hb592 hv593
    have hk595 := h
    clear h
    have h := hv593
    refine wl_run 4 1 [0, 1, 8, 9] hA594 rfl (L' := [(0, .int .i64 p0), (1, .int .i64 p1), (8, .bool false), (9, .int .i64 p1)]) (vs := []) (obl := []) (by kernel_rfl) trivial fun a596 hA597 => ?_
    obtain ⟨y598, hy598, h⟩ := bindS h
    refine wl_call 5 rfl (d := some 10) (g := 14) (args := #[.int .i64 p1]) hA597 (by kernel_rfl) Try.call14 (ref07_Is_ok n _ y598 w313 hy598) ?_
    rintro e w599 ⟨rfl, ex600⟩
    refine ⟨_, rfl, fun a601 hA602 => ?_⟩
    refine wl_run 6 2 [0, 1, 12] hA602 rfl (L' := [(0, .int .i64 p0), (1, .int .i64 p1), (12, .bool (!y598))]) (vs := []) (obl := []) (by kernel_rfl) trivial fun a603 hA604 => ?_
    refine wl_end ?_
    obtain rfl := someI h
    exact JK319 _ a603 w599 ex600 (Has.keep hA604 [0, 1, 12] rfl) hk595
  · have hA605 := Has.to (L' := [(0, .int .i64 p0), (1, .int .i64 p1), (8, .bool true)]) hA318 (by rw [hb592])
    replace hv593 := ctrue hb592 hv593
    have hk606 := h
    clear h
    have h := hv593
    refine wl_run 4 4 [0, 1, 12] hA605 rfl (L' := [(0, .int .i64 p0), (1, .int .i64 p1), (12, .bool true)]) (vs := []) (obl := []) (by kernel_rfl) trivial fun a607 hA608 => ?_
    refine wl_end ?_
    obtain rfl := someI h
    exact JK319 _ a607 w313 (Ext.refl _) (Has.keep hA608 [0, 1, 12] rfl) hk606

/-! bursary bursaryref07.Covers -/
def ref07_Covers_j1 (n : Nat) (p0 : Int) (p1 : Int) (p372 : Bool) : Option Bool :=
  cond p372
    (some false)
    (cond (((p0 == p1) || (p1 == 0)) || (p0 == 5))
      (some true)
      (some (((p1 == 1) && (((p0 == 2) || (p0 == 3)) || (p0 == 4))) || ((p0 == 4) && ((p1 == 2) || (p1 == 3))))))
def ref07_Covers (n : Nat) (p0 : Int) (p1 : Int) : Option Bool :=
  (ref07_Is n p0).bind fun y349 =>
  (cond (!y349)
  (some true)
  ((ref07_Is n p1).bind fun y672 =>
  some (!y672))).bind fun p372 =>
  ref07_Covers_j1 n p0 p1 p372
noncomputable def ref07_Covers_c0 : Code := bodyOf Try.f13
noncomputable def ref07_Covers_c1 : Code := seqL ref07_Covers_c0
noncomputable def ref07_Covers_c2 : Code := seqR ref07_Covers_c0
noncomputable def ref07_Covers_c1o : Array Oper := regO ref07_Covers_c1
noncomputable def ref07_Covers_c3 : Code := seqL ref07_Covers_c2
noncomputable def ref07_Covers_c4 : Code := seqR ref07_Covers_c2
noncomputable def ref07_Covers_c5 : Code := seqL ref07_Covers_c3
noncomputable def ref07_Covers_c6 : Code := seqR ref07_Covers_c3
noncomputable def ref07_Covers_c5o : Array Oper := regO ref07_Covers_c5
noncomputable def ref07_Covers_c7 : Code := condT ref07_Covers_c6
noncomputable def ref07_Covers_c8 : Code := condE ref07_Covers_c6
noncomputable def ref07_Covers_c9 : Code := seqL ref07_Covers_c7
noncomputable def ref07_Covers_c10 : Code := seqR ref07_Covers_c7
noncomputable def ref07_Covers_c9o : Array Oper := regO ref07_Covers_c9
noncomputable def ref07_Covers_c11 : Code := seqL ref07_Covers_c4
noncomputable def ref07_Covers_c12 : Code := seqR ref07_Covers_c4
noncomputable def ref07_Covers_c13 : Code := seqL ref07_Covers_c11
noncomputable def ref07_Covers_c14 : Code := seqR ref07_Covers_c11
noncomputable def ref07_Covers_c13o : Array Oper := regO ref07_Covers_c13
noncomputable def ref07_Covers_c15 : Code := condT ref07_Covers_c14
noncomputable def ref07_Covers_c16 : Code := condE ref07_Covers_c14
noncomputable def ref07_Covers_c17 : Code := seqL ref07_Covers_c15
noncomputable def ref07_Covers_c18 : Code := seqR ref07_Covers_c15
noncomputable def ref07_Covers_c17o : Array Oper := regO ref07_Covers_c17
noncomputable def ref07_Covers_c19 : Code := seqL ref07_Covers_c12
noncomputable def ref07_Covers_c20 : Code := seqR ref07_Covers_c12
noncomputable def ref07_Covers_c19o : Array Oper := regO ref07_Covers_c19
theorem ref07_Covers_ok (n : Nat) (p0 : Int) (p1 : Int) (r : Bool) (w : World)  (h : ref07_Covers n p0 p1 = some r) :
    Calls Try.prog 13 #[.int .i64 p0, .int .i64 p1] w fun e w' => e = .returned (.bool r) ∧ Ext w w' := by
  unfold ref07_Covers at h
  refine enter 50 Try.func13 rfl (by kernel_rfl) (by simp) fun a hA => ?_
  change ref07_Covers_c0.wp _ _ _ _
  refine c_seq ref07_Covers_c1 ref07_Covers_c2 (by kernel_rfl) fun K342 hK342 => ?_
  refine c_region ref07_Covers_c1o 1 (by kernel_rfl) (by kernel_rfl) ?_
  refine wl_run 0 1 [0, 1] hA rfl (L' := [(0, .int .i64 p0), (1, .int .i64 p1)]) (vs := []) (obl := []) (by kernel_rfl) trivial fun a343 hA344 => ?_
  refine wl_end ?_
  refine hK342 _ _ ?_
  refine c_seq ref07_Covers_c3 ref07_Covers_c4 (by kernel_rfl) fun K345 hK345 => ?_
  refine c_seq ref07_Covers_c5 ref07_Covers_c6 (by kernel_rfl) fun K346 hK346 => ?_
  refine c_region ref07_Covers_c5o 8 (by kernel_rfl) (by kernel_rfl) ?_
  refine wl_run 0 1 [0, 1, 5] hA344 rfl (L' := [(0, .int .i64 p0), (1, .int .i64 p1), (5, .int .i64 p0)]) (vs := []) (obl := []) (by kernel_rfl) trivial fun a347 hA348 => ?_
  obtain ⟨y349, hy349, h⟩ := bindS h
  refine wl_call 1 rfl (d := some 6) (g := 14) (args := #[.int .i64 p0]) hA348 (by kernel_rfl) Try.call14 (ref07_Is_ok n _ y349 w hy349) ?_
  rintro e w350 ⟨rfl, ex351⟩
  refine ⟨_, rfl, fun a352 hA353 => ?_⟩
  refine wl_run 2 2 [0, 1, 8] hA353 rfl (L' := [(0, .int .i64 p0), (1, .int .i64 p1), (8, .bool (!y349))]) (vs := []) (obl := []) (by kernel_rfl) trivial fun a354 hA355 => ?_
  refine wl_cut 8 rfl rfl fun K356 hK356 => ?_
  have JK356 : ∀ (p372 : Bool) (a369 : Act) (w368 : World), Ext w350 w368 → Has a369 50 [(0, .int .i64 p0), (1, .int .i64 p1), (12, .bool p372)] → ref07_Covers_j1 n p0 p1 p372 = some r → K356 a369 w368 := by
    intro p372 a369 w368 ex371 hA370 h
    unfold ref07_Covers_j1 at h
    refine hK356 _ _ ?_
    refine wl_end ?_
    refine hK346 _ _ ?_
    refine c_cond ref07_Covers_c7 ref07_Covers_c8 (condX ref07_Covers_c6) p372 hA370 (by kernel_rfl) (by kernel_rfl) (by kernel_rfl) (fun hb373 => ?_) (fun hb373 => ?_)
    · replace h := ctrue hb373 h
      refine c_seq ref07_Covers_c9 ref07_Covers_c10 (by kernel_rfl) fun K374 hK374 => ?_
      refine c_region ref07_Covers_c9o 1 (by kernel_rfl) (by kernel_rfl) ?_
      refine wl_run 0 1 [4] hA370 rfl (L' := [(4, .bool false)]) (vs := []) (obl := []) (by kernel_rfl) trivial fun a375 hA376 => ?_
      refine wl_end ?_
      refine hK374 _ _ ?_
      refine c_ret (by kernel_rfl) ?_
      obtain rfl := someI h
      try simp only [Exit.then, Exit.inBlock]
      refine ret1 hA376 4 _ (by kernel_rfl) rfl rfl ?_
      exact ⟨rfl, (Ext.trans ex351 ex371)⟩
    · replace h := cfalse hb373 h
      refine c_skip (by kernel_rfl) ?_
      refine hK345 _ _ ?_
      refine c_seq ref07_Covers_c11 ref07_Covers_c12 (by kernel_rfl) fun K377 hK377 => ?_
      refine c_seq ref07_Covers_c13 ref07_Covers_c14 (by kernel_rfl) fun K378 hK378 => ?_
      refine c_region ref07_Covers_c13o 11 (by kernel_rfl) (by kernel_rfl) ?_
      refine wl_run 0 4 [0, 1, 16] hA370 rfl (L' := [(0, .int .i64 p0), (1, .int .i64 p1), (16, .bool (p0 == p1))]) (vs := []) (obl := []) (by kernel_rfl) trivial fun a379 hA380 => ?_
      refine wl_cut 7 rfl rfl fun K381 hK381 => ?_
      have JK381 : ∀ (a387 : Act), Has a387 50 [(0, .int .i64 p0), (1, .int .i64 p1), (19, .bool ((p0 == p1) || (p1 == 0)))] → K381 a387 w368 := by
        intro a387 hA388
        refine hK381 _ _ ?_
        refine wl_run 7 1 [0, 1, 20] hA388 rfl (L' := [(0, .int .i64 p0), (1, .int .i64 p1), (20, .bool ((p0 == p1) || (p1 == 0)))]) (vs := []) (obl := []) (by kernel_rfl) trivial fun a390 hA391 => ?_
        refine wl_cut 11 rfl rfl fun K392 hK392 => ?_
        have JK392 : ∀ (a398 : Act), Has a398 50 [(0, .int .i64 p0), (1, .int .i64 p1), (23, .bool (((p0 == p1) || (p1 == 0)) || (p0 == 5)))] → K392 a398 w368 := by
          intro a398 hA399
          refine hK392 _ _ ?_
          refine wl_end ?_
          refine hK378 _ _ ?_
          refine c_cond ref07_Covers_c15 ref07_Covers_c16 (condX ref07_Covers_c14) (((p0 == p1) || (p1 == 0)) || (p0 == 5)) hA399 (by kernel_rfl) (by kernel_rfl) (by kernel_rfl) (fun hb401 => ?_) (fun hb401 => ?_)
          · replace h := ctrue hb401 h
            refine c_seq ref07_Covers_c17 ref07_Covers_c18 (by kernel_rfl) fun K402 hK402 => ?_
            refine c_region ref07_Covers_c17o 1 (by kernel_rfl) (by kernel_rfl) ?_
            refine wl_run 0 1 [4] hA399 rfl (L' := [(4, .bool true)]) (vs := []) (obl := []) (by kernel_rfl) trivial fun a403 hA404 => ?_
            refine wl_end ?_
            refine hK402 _ _ ?_
            refine c_ret (by kernel_rfl) ?_
            obtain rfl := someI h
            try simp only [Exit.then, Exit.inBlock]
            refine ret1 hA404 4 _ (by kernel_rfl) rfl rfl ?_
            exact ⟨rfl, (Ext.trans ex351 ex371)⟩
          · replace h := cfalse hb401 h
            refine c_skip (by kernel_rfl) ?_
            refine hK377 _ _ ?_
            refine c_seq ref07_Covers_c19 ref07_Covers_c20 (by kernel_rfl) fun K405 hK405 => ?_
            refine c_region ref07_Covers_c19o 27 (by kernel_rfl) (by kernel_rfl) ?_
            refine wl_run 0 3 [0, 1, 26] hA399 rfl (L' := [(0, .int .i64 p0), (1, .int .i64 p1), (26, .bool (p1 == 1))]) (vs := []) (obl := []) (by kernel_rfl) trivial fun a406 hA407 => ?_
            refine wl_cut 14 rfl rfl fun K408 hK408 => ?_
            have JK408 : ∀ (a454 : Act), Has a454 50 [(0, .int .i64 p0), (1, .int .i64 p1), (37, .bool ((p1 == 1) && (((p0 == 2) || (p0 == 3)) || (p0 == 4))))] → K408 a454 w368 := by
              intro a454 hA455
              refine hK408 _ _ ?_
              refine wl_run 14 1 [0, 1, 38] hA455 rfl (L' := [(0, .int .i64 p0), (1, .int .i64 p1), (38, .bool ((p1 == 1) && (((p0 == 2) || (p0 == 3)) || (p0 == 4))))]) (vs := []) (obl := []) (by kernel_rfl) trivial fun a457 hA458 => ?_
              refine wl_cut 26 rfl rfl fun K459 hK459 => ?_
              have JK459 : ∀ (a525 : Act), Has a525 50 [(49, .bool (((p1 == 1) && (((p0 == 2) || (p0 == 3)) || (p0 == 4))) || ((p0 == 4) && ((p1 == 2) || (p1 == 3)))))] → K459 a525 w368 := by
                intro a525 hA526
                refine hK459 _ _ ?_
                refine wl_run 26 1 [4] hA526 rfl (L' := [(4, .bool (((p1 == 1) && (((p0 == 2) || (p0 == 3)) || (p0 == 4))) || ((p0 == 4) && ((p1 == 2) || (p1 == 3)))))]) (vs := []) (obl := []) (by kernel_rfl) trivial fun a528 hA529 => ?_
                refine wl_end ?_
                refine hK405 _ _ ?_
                refine c_ret (by kernel_rfl) ?_
                obtain rfl := someI h
                try simp only [Exit.then, Exit.inBlock]
                refine ret1 hA529 4 _ (by kernel_rfl) rfl rfl ?_
                exact ⟨rfl, (Ext.trans ex351 ex371)⟩
              cases hb530 : ((p1 == 1) && (((p0 == 2) || (p0 == 3)) || (p0 == 4)))
              · have hA531 := Has.to (L' := [(0, .int .i64 p0), (1, .int .i64 p1), (38, .bool false)]) hA458 (by rw [hb530])
                refine wl_run 15 3 [1, 38, 41] hA531 rfl (L' := [(1, .int .i64 p1), (38, .bool false), (41, .bool (p0 == 4))]) (vs := []) (obl := []) (by kernel_rfl) trivial fun a533 hA534 => ?_
                refine wl_cut 25 rfl rfl fun K535 hK535 => ?_
                have JK535 : ∀ (a561 : Act), Has a561 50 [(38, .bool false), (48, .bool ((p0 == 4) && ((p1 == 2) || (p1 == 3))))] → K535 a561 w368 := by
                  intro a561 hA562
                  refine hK535 _ _ ?_
                  refine wl_run 25 1 [49] hA562 rfl (L' := [(49, .bool ((p0 == 4) && ((p1 == 2) || (p1 == 3))))]) (vs := []) (obl := []) (by kernel_rfl) trivial fun a564 hA565 => ?_
                  refine wl_end ?_
                  exact JK459 a564 (Has.to (Has.keep hA565 [49] rfl) (by rw [hb530]; rfl))
                cases hb566 : (p0 == 4)
                · have hA567 := Has.to (L' := [(1, .int .i64 p1), (38, .bool false), (41, .bool false)]) hA534 (by rw [hb566])
                  refine wl_run 18 7 [38, 48] hA567 rfl (L' := [(38, .bool false), (48, .bool false)]) (vs := []) (obl := []) (by kernel_rfl) trivial fun a569 hA570 => ?_
                  refine wl_end ?_
                  exact JK535 a569 (Has.to (Has.keep hA570 [38, 48] rfl) (by rw [hb566]; rfl))
                · have hA571 := Has.to (L' := [(1, .int .i64 p1), (38, .bool false), (41, .bool true)]) hA534 (by rw [hb566])
                  refine wl_run 18 3 [1, 38, 41, 44] hA571 rfl (L' := [(1, .int .i64 p1), (38, .bool false), (41, .bool true), (44, .bool (p1 == 2))]) (vs := []) (obl := []) (by kernel_rfl) trivial fun a573 hA574 => ?_
                  refine wl_cut 24 rfl rfl fun K575 hK575 => ?_
                  have JK575 : ∀ (a581 : Act), Has a581 50 [(38, .bool false), (41, .bool true), (47, .bool ((p1 == 2) || (p1 == 3)))] → K575 a581 w368 := by
                    intro a581 hA582
                    refine hK575 _ _ ?_
                    refine wl_run 24 1 [38, 48] hA582 rfl (L' := [(38, .bool false), (48, .bool ((p1 == 2) || (p1 == 3)))]) (vs := []) (obl := []) (by kernel_rfl) trivial fun a584 hA585 => ?_
                    refine wl_end ?_
                    exact JK535 a584 (Has.to (Has.keep hA585 [38, 48] rfl) (by rw [hb566]; rfl))
                  cases hb586 : (p1 == 2)
                  · have hA587 := Has.to (L' := [(1, .int .i64 p1), (38, .bool false), (41, .bool true), (44, .bool false)]) hA574 (by rw [hb586])
                    refine wl_run 21 3 [38, 41, 47] hA587 rfl (L' := [(38, .bool false), (41, .bool true), (47, .bool (p1 == 3))]) (vs := []) (obl := []) (by kernel_rfl) trivial fun a589 hA590 => ?_
                    refine wl_end ?_
                    exact JK575 a589 (Has.to (Has.keep hA590 [38, 41, 47] rfl) (by rw [hb586]; rfl))
                  · have hA591 := Has.to (L' := [(1, .int .i64 p1), (38, .bool false), (41, .bool true), (44, .bool true)]) hA574 (by rw [hb586])
                    refine wl_run 21 3 [38, 41, 47] hA591 rfl (L' := [(38, .bool false), (41, .bool true), (47, .bool true)]) (vs := []) (obl := []) (by kernel_rfl) trivial fun a593 hA594 => ?_
                    refine wl_end ?_
                    exact JK575 a593 (Has.to (Has.keep hA594 [38, 41, 47] rfl) (by rw [hb586]; rfl))
              · have hA595 := Has.to (L' := [(0, .int .i64 p0), (1, .int .i64 p1), (38, .bool true)]) hA458 (by rw [hb530])
                refine wl_run 15 11 [49] hA595 rfl (L' := [(49, .bool true)]) (vs := []) (obl := []) (by kernel_rfl) trivial fun a597 hA598 => ?_
                refine wl_end ?_
                exact JK459 a597 (Has.to (Has.keep hA598 [49] rfl) (by rw [hb530]; rfl))
            cases hb599 : (p1 == 1)
            · have hA600 := Has.to (L' := [(0, .int .i64 p0), (1, .int .i64 p1), (26, .bool false)]) hA407 (by rw [hb599])
              refine wl_run 3 11 [0, 1, 37] hA600 rfl (L' := [(0, .int .i64 p0), (1, .int .i64 p1), (37, .bool false)]) (vs := []) (obl := []) (by kernel_rfl) trivial fun a602 hA603 => ?_
              refine wl_end ?_
              exact JK408 a602 (Has.to (Has.keep hA603 [0, 1, 37] rfl) (by rw [hb599]; rfl))
            · have hA604 := Has.to (L' := [(0, .int .i64 p0), (1, .int .i64 p1), (26, .bool true)]) hA407 (by rw [hb599])
              refine wl_run 3 3 [0, 1, 26, 29] hA604 rfl (L' := [(0, .int .i64 p0), (1, .int .i64 p1), (26, .bool true), (29, .bool (p0 == 2))]) (vs := []) (obl := []) (by kernel_rfl) trivial fun a606 hA607 => ?_
              refine wl_cut 9 rfl rfl fun K608 hK608 => ?_
              have JK608 : ∀ (a614 : Act), Has a614 50 [(0, .int .i64 p0), (1, .int .i64 p1), (26, .bool true), (32, .bool ((p0 == 2) || (p0 == 3)))] → K608 a614 w368 := by
                intro a614 hA615
                refine hK608 _ _ ?_
                refine wl_run 9 1 [0, 1, 26, 33] hA615 rfl (L' := [(0, .int .i64 p0), (1, .int .i64 p1), (26, .bool true), (33, .bool ((p0 == 2) || (p0 == 3)))]) (vs := []) (obl := []) (by kernel_rfl) trivial fun a617 hA618 => ?_
                refine wl_cut 13 rfl rfl fun K619 hK619 => ?_
                have JK619 : ∀ (a625 : Act), Has a625 50 [(0, .int .i64 p0), (1, .int .i64 p1), (26, .bool true), (36, .bool (((p0 == 2) || (p0 == 3)) || (p0 == 4)))] → K619 a625 w368 := by
                  intro a625 hA626
                  refine hK619 _ _ ?_
                  refine wl_run 13 1 [0, 1, 37] hA626 rfl (L' := [(0, .int .i64 p0), (1, .int .i64 p1), (37, .bool (((p0 == 2) || (p0 == 3)) || (p0 == 4)))]) (vs := []) (obl := []) (by kernel_rfl) trivial fun a628 hA629 => ?_
                  refine wl_end ?_
                  exact JK408 a628 (Has.to (Has.keep hA629 [0, 1, 37] rfl) (by rw [hb599]; rfl))
                cases hb630 : ((p0 == 2) || (p0 == 3))
                · have hA631 := Has.to (L' := [(0, .int .i64 p0), (1, .int .i64 p1), (26, .bool true), (33, .bool false)]) hA618 (by rw [hb630])
                  refine wl_run 10 3 [0, 1, 26, 36] hA631 rfl (L' := [(0, .int .i64 p0), (1, .int .i64 p1), (26, .bool true), (36, .bool (p0 == 4))]) (vs := []) (obl := []) (by kernel_rfl) trivial fun a633 hA634 => ?_
                  refine wl_end ?_
                  exact JK619 a633 (Has.to (Has.keep hA634 [0, 1, 26, 36] rfl) (by rw [hb630]; rfl))
                · have hA635 := Has.to (L' := [(0, .int .i64 p0), (1, .int .i64 p1), (26, .bool true), (33, .bool true)]) hA618 (by rw [hb630])
                  refine wl_run 10 3 [0, 1, 26, 36] hA635 rfl (L' := [(0, .int .i64 p0), (1, .int .i64 p1), (26, .bool true), (36, .bool true)]) (vs := []) (obl := []) (by kernel_rfl) trivial fun a637 hA638 => ?_
                  refine wl_end ?_
                  exact JK619 a637 (Has.to (Has.keep hA638 [0, 1, 26, 36] rfl) (by rw [hb630]; rfl))
              cases hb639 : (p0 == 2)
              · have hA640 := Has.to (L' := [(0, .int .i64 p0), (1, .int .i64 p1), (26, .bool true), (29, .bool false)]) hA607 (by rw [hb639])
                refine wl_run 6 3 [0, 1, 26, 32] hA640 rfl (L' := [(0, .int .i64 p0), (1, .int .i64 p1), (26, .bool true), (32, .bool (p0 == 3))]) (vs := []) (obl := []) (by kernel_rfl) trivial fun a642 hA643 => ?_
                refine wl_end ?_
                exact JK608 a642 (Has.to (Has.keep hA643 [0, 1, 26, 32] rfl) (by rw [hb639]; rfl))
              · have hA644 := Has.to (L' := [(0, .int .i64 p0), (1, .int .i64 p1), (26, .bool true), (29, .bool true)]) hA607 (by rw [hb639])
                refine wl_run 6 3 [0, 1, 26, 32] hA644 rfl (L' := [(0, .int .i64 p0), (1, .int .i64 p1), (26, .bool true), (32, .bool true)]) (vs := []) (obl := []) (by kernel_rfl) trivial fun a646 hA647 => ?_
                refine wl_end ?_
                exact JK608 a646 (Has.to (Has.keep hA647 [0, 1, 26, 32] rfl) (by rw [hb639]; rfl))
        cases hb648 : ((p0 == p1) || (p1 == 0))
        · have hA649 := Has.to (L' := [(0, .int .i64 p0), (1, .int .i64 p1), (20, .bool false)]) hA391 (by rw [hb648])
          refine wl_run 8 3 [0, 1, 23] hA649 rfl (L' := [(0, .int .i64 p0), (1, .int .i64 p1), (23, .bool (p0 == 5))]) (vs := []) (obl := []) (by kernel_rfl) trivial fun a651 hA652 => ?_
          refine wl_end ?_
          exact JK392 a651 (Has.to (Has.keep hA652 [0, 1, 23] rfl) (by rw [hb648]; rfl))
        · have hA653 := Has.to (L' := [(0, .int .i64 p0), (1, .int .i64 p1), (20, .bool true)]) hA391 (by rw [hb648])
          refine wl_run 8 3 [0, 1, 23] hA653 rfl (L' := [(0, .int .i64 p0), (1, .int .i64 p1), (23, .bool true)]) (vs := []) (obl := []) (by kernel_rfl) trivial fun a655 hA656 => ?_
          refine wl_end ?_
          exact JK392 a655 (Has.to (Has.keep hA656 [0, 1, 23] rfl) (by rw [hb648]; rfl))
      cases hb657 : (p0 == p1)
      · have hA658 := Has.to (L' := [(0, .int .i64 p0), (1, .int .i64 p1), (16, .bool false)]) hA380 (by rw [hb657])
        refine wl_run 4 3 [0, 1, 19] hA658 rfl (L' := [(0, .int .i64 p0), (1, .int .i64 p1), (19, .bool (p1 == 0))]) (vs := []) (obl := []) (by kernel_rfl) trivial fun a660 hA661 => ?_
        refine wl_end ?_
        exact JK381 a660 (Has.to (Has.keep hA661 [0, 1, 19] rfl) (by rw [hb657]; rfl))
      · have hA662 := Has.to (L' := [(0, .int .i64 p0), (1, .int .i64 p1), (16, .bool true)]) hA380 (by rw [hb657])
        refine wl_run 4 3 [0, 1, 19] hA662 rfl (L' := [(0, .int .i64 p0), (1, .int .i64 p1), (19, .bool true)]) (vs := []) (obl := []) (by kernel_rfl) trivial fun a664 hA665 => ?_
        refine wl_end ?_
        exact JK381 a664 (Has.to (Has.keep hA665 [0, 1, 19] rfl) (by rw [hb657]; rfl))
  obtain ⟨p372, hv667, h⟩ := bindS h
  cases hb666 : (!y349)
  · have hA668 := Has.to (L' := [(0, .int .i64 p0), (1, .int .i64 p1), (8, .bool false)]) hA355 (by rw [hb666])
    replace hv667 := cfalse hb666 hv667
    have hk669 := h
    clear h
    have h := hv667
    refine wl_run 4 1 [0, 1, 8, 9] hA668 rfl (L' := [(0, .int .i64 p0), (1, .int .i64 p1), (8, .bool false), (9, .int .i64 p1)]) (vs := []) (obl := []) (by kernel_rfl) trivial fun a670 hA671 => ?_
    obtain ⟨y672, hy672, h⟩ := bindS h
    refine wl_call 5 rfl (d := some 10) (g := 14) (args := #[.int .i64 p1]) hA671 (by kernel_rfl) Try.call14 (ref07_Is_ok n _ y672 w350 hy672) ?_
    rintro e w673 ⟨rfl, ex674⟩
    refine ⟨_, rfl, fun a675 hA676 => ?_⟩
    refine wl_run 6 2 [0, 1, 12] hA676 rfl (L' := [(0, .int .i64 p0), (1, .int .i64 p1), (12, .bool (!y672))]) (vs := []) (obl := []) (by kernel_rfl) trivial fun a677 hA678 => ?_
    refine wl_end ?_
    obtain rfl := someI h
    exact JK356 _ a677 w673 ex674 (Has.keep hA678 [0, 1, 12] rfl) hk669
  · have hA679 := Has.to (L' := [(0, .int .i64 p0), (1, .int .i64 p1), (8, .bool true)]) hA355 (by rw [hb666])
    replace hv667 := ctrue hb666 hv667
    have hk680 := h
    clear h
    have h := hv667
    refine wl_run 4 4 [0, 1, 12] hA679 rfl (L' := [(0, .int .i64 p0), (1, .int .i64 p1), (12, .bool true)]) (vs := []) (obl := []) (by kernel_rfl) trivial fun a681 hA682 => ?_
    refine wl_end ?_
    obtain rfl := someI h
    exact JK356 _ a681 w350 (Ext.refl _) (Has.keep hA682 [0, 1, 12] rfl) hk680

end Go.Proofs.Ytghinjlfaicpjaa
