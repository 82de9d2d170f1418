/- The plain laws of layer 7 (modes): what the printed twins compute is as the statements say. -/
import Derived.Test.YtghinjlfaicpjaaF5
namespace Go.Proofs.Ytghinjlfaicpjaa
open Go.Bur
set_option linter.unusedSimpArgs false
set_option maxRecDepth 100000

/-- A number that is no mode stands for all that are none. -/
def cl (a : Int) : Int := if 0 ≤ a ∧ a ≤ 6 then a else 7
theorem cl_in {a : Int} (h : 0 ≤ a ∧ a ≤ 6) : cl a = a := if_pos h
theorem cl_out {a : Int} (h : ¬(0 ≤ a ∧ a ≤ 6)) : cl a = 7 := if_neg h
theorem cl_mem (a : Int) : cl a ∈ [(0 : Int), 1, 2, 3, 4, 5, 6, 7] := by
  by_cases h : 0 ≤ a ∧ a ≤ 6
  · rw [cl_in h]
    have : a = 0 ∨ a = 1 ∨ a = 2 ∨ a = 3 ∨ a = 4 ∨ a = 5 ∨ a = 6 := by omega
    rcases this with rfl | rfl | rfl | rfl | rfl | rfl | rfl <;> decide
  · rw [cl_out h]; decide

theorem rng {a : Int} (h : ¬(0 ≤ a ∧ a ≤ 6)) : (decide (a ≥ 0) && decide (a < 7)) = false := by
  cases h0 : (decide (a ≥ 0) && decide (a < 7))
  · rfl
  · simp only [Bool.and_eq_true, decide_eq_true_eq] at h0; omega
theorem rng' {a : Int} (h : ¬(0 ≤ a ∧ a ≤ 6)) : (decide (a ≥ 0) && decide (a ≤ 6)) = false := by
  cases h0 : (decide (a ≥ 0) && decide (a ≤ 6))
  · rfl
  · simp only [Bool.and_eq_true, decide_eq_true_eq] at h0; omega
theorem is_out {n : Nat} {a : Int} (h : ¬(0 ≤ a ∧ a ≤ 6)) : mode_is n a = some false := by simp only [mode_is, rng h]
theorem ref_out {n : Nat} {a : Int} (h : ¬(0 ≤ a ∧ a ≤ 6)) : ref07_Is n a = some false := by simp only [ref07_Is, rng' h]
theorem out7 : ¬(0 ≤ (7 : Int) ∧ (7 : Int) ≤ 6) := by omega

theorem is_cl (n : Nat) (a : Int) : mode_is n a = mode_is n (cl a) := by
  by_cases h : 0 ≤ a ∧ a ≤ 6
  · rw [cl_in h]
  · rw [cl_out h, is_out h, is_out out7]
theorem ref_cl (n : Nat) (a : Int) : ref07_Is n a = ref07_Is n (cl a) := by
  by_cases h : 0 ≤ a ∧ a ≤ 6
  · rw [cl_in h]
  · rw [cl_out h, ref_out h, ref_out out7]

section out
variable {a : Int} (h : ¬(0 ≤ a ∧ a ≤ 6))
include h
theorem check_out : mode_Check 100 a = some 170 := by simp [mode_Check, is_out h]
theorem tables_out : mode_OfTables 100 a = some false := by simp [mode_OfTables, is_out h]
theorem keys_out : mode_OfKeys 100 a = some false := by simp [mode_OfKeys, mode_OfKeys_j1, is_out h]
theorem goes_l (x : Int) : mode_Goes 100 a x = some false := by simp [mode_Goes, mode_Goes_j1, mode_Goes_j2, is_out h]
theorem goes_r (x : Int) : mode_Goes 100 x a = some false := by
  obtain ⟨t, ht⟩ : ∃ t, mode_is 100 x = some t := ⟨_, rfl⟩
  cases t <;> simp [mode_Goes, mode_Goes_j1, mode_Goes_j2, is_out h, ht]
theorem covers_l (x : Int) : mode_Covers 100 a x = some false := by simp [mode_Covers, mode_Covers_j1, mode_Covers_j2, is_out h]
theorem covers_r (x : Int) : mode_Covers 100 x a = some false := by
  obtain ⟨t, ht⟩ : ∃ t, mode_is 100 x = some t := ⟨_, rfl⟩
  cases t <;> simp [mode_Covers, mode_Covers_j1, mode_Covers_j2, is_out h, ht]
theorem sup_l (x : Int) : mode_Sup 100 a x = some (0, 170) := by simp [mode_Sup, mode_Sup_j7, is_out h]
theorem sup_r (x : Int) : mode_Sup 100 x a = some (0, 170) := by
  obtain ⟨t, ht⟩ : ∃ t, mode_is 100 x = some t := ⟨_, rfl⟩
  cases t <;> simp [mode_Sup, mode_Sup_j7, is_out h, ht]
theorem text_out : mode_Text 100 a = some (ByteArray.mk #[]) := by simp [mode_Text, is_out h]
theorem rgoes_l (x : Int) : ref07_Goes 100 a x = some false := by simp [ref07_Goes, ref07_Goes_j7, ref_out h]
theorem rgoes_r (x : Int) : ref07_Goes 100 x a = some false := by
  obtain ⟨t, ht⟩ : ∃ t, ref07_Is 100 x = some t := ⟨_, rfl⟩
  cases t <;> simp [ref07_Goes, ref07_Goes_j7, ref_out h, ht]
theorem rcovers_l (x : Int) : ref07_Covers 100 a x = some false := by simp [ref07_Covers, ref07_Covers_j1, ref_out h]
theorem rcovers_r (x : Int) : ref07_Covers 100 x a = some false := by
  obtain ⟨t, ht⟩ : ∃ t, ref07_Is 100 x = some t := ⟨_, rfl⟩
  cases t <;> simp [ref07_Covers, ref07_Covers_j1, ref_out h, ht]
theorem rtables_out : ref07_Tables 100 a = some false := by simp [ref07_Tables, ref_out h]
theorem rkeys_out : ref07_Keys 100 a = some false := by
  have h0 : (a == 0) = false := by rw [beq_eq_false_iff_ne]; omega
  have h3 : (a == 3) = false := by rw [beq_eq_false_iff_ne]; omega
  have h5 : (a == 5) = false := by rw [beq_eq_false_iff_ne]; omega
  have h6 : (a == 6) = false := by rw [beq_eq_false_iff_ne]; omega
  simp [ref07_Keys, h0, h3, h5, h6]
theorem rname_out : ref07_Name 100 a = some (ByteArray.mk #[]) := by
  have h0 : (a == 0) = false := by rw [beq_eq_false_iff_ne]; omega
  have h1 : (a == 1) = false := by rw [beq_eq_false_iff_ne]; omega
  have h2 : (a == 2) = false := by rw [beq_eq_false_iff_ne]; omega
  have h3 : (a == 3) = false := by rw [beq_eq_false_iff_ne]; omega
  have h4 : (a == 4) = false := by rw [beq_eq_false_iff_ne]; omega
  have h5 : (a == 5) = false := by rw [beq_eq_false_iff_ne]; omega
  have h6 : (a == 6) = false := by rw [beq_eq_false_iff_ne]; omega
  simp [ref07_Name, h0, h1, h2, h3, h4, h5, h6]
end out

theorem wakes100 : law07_wakes 100 = some true := by decide +kernel

theorem in_mem {a : Int} (h : 0 ≤ a ∧ a ≤ 6) : a ∈ [(0 : Int), 1, 2, 3, 4, 5, 6] := by
  have : a = 0 ∨ a = 1 ∨ a = 2 ∨ a = 3 ∨ a = 4 ∨ a = 5 ∨ a = 6 := by omega
  rcases this with rfl | rfl | rfl | rfl | rfl | rfl | rfl <;> decide

theorem pairs_in : ∀ a ∈ [(0 : Int), 1, 2, 3, 4, 5, 6], ∀ b ∈ [(0 : Int), 1, 2, 3, 4, 5, 6], law07_ModePairs 100 a b = some true := by decide +kernel
theorem pairs (a b : Int) : law07_ModePairs 100 a b = some true := by
  by_cases ha : 0 ≤ a ∧ a ≤ 6
  · by_cases hb : 0 ≤ b ∧ b ≤ 6
    · exact pairs_in a (in_mem ha) b (in_mem hb)
    · obtain ⟨t, ht⟩ : ∃ t, ref07_Is 100 a = some t := ⟨_, rfl⟩
      cases t <;> simp [law07_ModePairs, law07_ModePairs_j6, law07_ModePairs_j5, wakes100, sup_r hb, goes_r hb, rgoes_r hb, covers_r hb, rcovers_r hb, ref_out hb, ht]
  · simp [law07_ModePairs, law07_ModePairs_j6, law07_ModePairs_j5, wakes100, sup_l ha, goes_l ha, rgoes_l ha, covers_l ha, rcovers_l ha, ref_out ha]

theorem sups_in : ∀ a ∈ [(0 : Int), 1, 2, 3, 4, 5, 6], ∀ b ∈ [(0 : Int), 1, 2, 3, 4, 5, 6], ∀ c ∈ [(0 : Int), 1, 2, 3, 4, 5, 6, 7], law07_ModeSups 100 a b c = some true := by decide +kernel
theorem sups (a b c : Int) : law07_ModeSups 100 a b c = some true := by
  by_cases ha : 0 ≤ a ∧ a ≤ 6
  · by_cases hb : 0 ≤ b ∧ b ≤ 6
    · by_cases hc : 0 ≤ c ∧ c ≤ 6
      · exact sups_in a (in_mem ha) b (in_mem hb) c (by have := cl_mem c; rwa [cl_in hc] at this)
      · rw [← sups_in a (in_mem ha) b (in_mem hb) 7 (by decide)]
        simp only [law07_ModeSups, law07_ModeSups_j1, law07_ModeSups_j2, law07_ModeSups_j3, law07_ModeSups_j4, law07_ModeSups_j5, law07_ModeSups_j6, law07_ModeSups_j7, law07_ModeSups_j8, law07_ModeSups_j9, law07_ModeSups_j10,
          check_out hc, tables_out hc, keys_out hc, goes_l hc, goes_r hc, covers_l hc, covers_r hc, sup_l hc, sup_r hc,
          check_out out7, tables_out out7, keys_out out7, goes_l out7, goes_r out7, covers_l out7, covers_r out7, sup_l out7, sup_r out7]
    · simp [law07_ModeSups, wakes100, sup_r hb, sup_l hb]
  · simp [law07_ModeSups, wakes100, sup_r ha, sup_l ha]

theorem order_in : ∀ a ∈ [(0 : Int), 1, 2, 3, 4, 5, 6, 7], ∀ b ∈ [(0 : Int), 1, 2, 3, 4, 5, 6, 7], ∀ c ∈ [(0 : Int), 1, 2, 3, 4, 5, 6, 7], law07_ModeOrder 100 a b c = some true := by decide +kernel
theorem order_cl (a b c : Int) : law07_ModeOrder 100 a b c = law07_ModeOrder 100 (cl a) (cl b) (cl c) := by
  have s1 : law07_ModeOrder 100 a b c = law07_ModeOrder 100 a b (cl c) := by
    by_cases hc : 0 ≤ c ∧ c ≤ 6
    · rw [cl_in hc]
    · rw [cl_out hc]
      simp only [law07_ModeOrder, law07_ModeOrder_j1, law07_ModeOrder_j2, law07_ModeOrder_j3, law07_ModeOrder_j4, law07_ModeOrder_j5, law07_ModeOrder_j6, law07_ModeOrder_j7, law07_ModeOrder_j8,
        goes_l hc, goes_r hc, covers_l hc, covers_r hc, goes_l out7, goes_r out7, covers_l out7, covers_r out7]
  have s2 : ∀ c, law07_ModeOrder 100 a b c = law07_ModeOrder 100 a (cl b) c := by
    intro c
    by_cases hc : 0 ≤ b ∧ b ≤ 6
    · rw [cl_in hc]
    · rw [cl_out hc]
      simp only [law07_ModeOrder, law07_ModeOrder_j1, law07_ModeOrder_j2, law07_ModeOrder_j3, law07_ModeOrder_j4, law07_ModeOrder_j5, law07_ModeOrder_j6, law07_ModeOrder_j7, law07_ModeOrder_j8,
        goes_l hc, goes_r hc, covers_l hc, covers_r hc, goes_l out7, goes_r out7, covers_l out7, covers_r out7, cond_false, Option.bind_some, Bool.false_and]
  have s3 : ∀ b c, law07_ModeOrder 100 a b c = law07_ModeOrder 100 (cl a) b c := by
    intro b c
    by_cases hc : 0 ≤ a ∧ a ≤ 6
    · rw [cl_in hc]
    · rw [cl_out hc]
      simp only [law07_ModeOrder, law07_ModeOrder_j1, law07_ModeOrder_j2, law07_ModeOrder_j3, law07_ModeOrder_j4, law07_ModeOrder_j5, law07_ModeOrder_j6, law07_ModeOrder_j7, law07_ModeOrder_j8,
        check_out hc, check_out out7, goes_l hc, goes_r hc, covers_l hc, covers_r hc, goes_l out7, goes_r out7, covers_l out7, covers_r out7, cond_false, Option.bind_some, Bool.false_and]
  rw [s1, s2, s3]
theorem order (a b c : Int) : law07_ModeOrder 100 a b c = some true := by
  rw [order_cl]
  exact order_in _ (cl_mem a) _ (cl_mem b) _ (cl_mem c)

/-! ### Texts -/
def nm : Nat → ByteArray
  | 0 => .mk #[45] | 1 => .mk #[73, 83] | 2 => .mk #[73, 88] | 3 => .mk #[83] | 4 => .mk #[83, 73, 88] | 5 => .mk #[88] | _ => .mk #[69]
theorem toList_inj {a b : ByteArray} (h : a.toList = b.toList) : a = b := by
  rw [ByteArray.toList_eq, ByteArray.toList_eq] at h
  obtain ⟨⟨x⟩⟩ := a
  obtain ⟨⟨y⟩⟩ := b
  simp only at h
  rw [h]
theorem names_or (s : ByteArray) : (∃ k, k ≤ 6 ∧ s = nm k) ∨ (∀ k, k ≤ 6 → (s.toList == (nm k).toList) = false) := by
  by_cases h : ∃ k, k ≤ 6 ∧ s = nm k
  · exact .inl h
  · refine .inr fun k hk => ?_
    rw [beq_eq_false_iff_ne]
    exact fun e => h ⟨k, hk, toList_inj e⟩
theorem tells_in : ∀ a ∈ [(0 : Int), 1, 2, 3, 4, 5, 6, 7], ∀ k ∈ [0, 1, 2, 3, 4, 5, 6], law07_ModeTells 100 a (nm k) = some true := by decide +kernel
theorem tells_cl (a : Int) (s : ByteArray) : law07_ModeTells 100 a s = law07_ModeTells 100 (cl a) s := by
  by_cases hc : 0 ≤ a ∧ a ≤ 6
  · rw [cl_in hc]
  · rw [cl_out hc]
    simp only [law07_ModeTells, law07_ModeTells_j1, law07_ModeTells_j2, law07_ModeTells_j3, check_out hc, check_out out7, ref_out hc, ref_out out7, tables_out hc, tables_out out7, rtables_out hc, rtables_out out7,
      keys_out hc, keys_out out7, rkeys_out hc, rkeys_out out7, text_out hc, text_out out7, rname_out hc, rname_out out7]
theorem mem7 {k : Nat} (h : k ≤ 6) : k ∈ [0, 1, 2, 3, 4, 5, 6] := by
  have : k = 0 ∨ k = 1 ∨ k = 2 ∨ k = 3 ∨ k = 4 ∨ k = 5 ∨ k = 6 := by omega
  rcases this with rfl | rfl | rfl | rfl | rfl | rfl | rfl <;> decide

theorem names100 : mode_names 100 = some [nm 0, nm 1, nm 2, nm 3, nm 4, nm 5, nm 6] := rfl
theorem wr (k : Int) (h : 0 ≤ k ∧ k < 10) : IntKind.wrap .i64 k = k := by
  have : k = 0 ∨ k = 1 ∨ k = 2 ∨ k = 3 ∨ k = 4 ∨ k = 5 ∨ k = 6 ∨ k = 7 ∨ k = 8 ∨ k = 9 := by omega
  rcases this with rfl | rfl | rfl | rfl | rfl | rfl | rfl | rfl | rfl | rfl <;> rfl
section none_
variable {s : ByteArray} (h : ∀ k, k ≤ 6 → (s.toList == (nm k).toList) = false)
include h
theorem index_none : slices_Index_string 100 [nm 0, nm 1, nm 2, nm 3, nm 4, nm 5, nm 6] s = some (-1) := by
  have h0 := h 0 (by omega); have h1 := h 1 (by omega); have h2 := h 2 (by omega); have h3 := h 3 (by omega); have h4 := h 4 (by omega); have h5 := h 5 (by omega); have h6 := h 6 (by omega)
  unfold slices_Index_string
  simp [slices_Index_string_l2, idx, h0, h1, h2, h3, h4, h5, h6, wr]
theorem parse_none : mode_Parse 100 s = some (0, 2) := by
  simp [mode_Parse, names100, index_none h]
theorem tells_loop : law07_ModeTells_l2 100 s (0, 2) 100 0 = some true := by
  have h0 := h 0 (by omega); have h1 := h 1 (by omega); have h2 := h 2 (by omega); have h3 := h 3 (by omega); have h4 := h 4 (by omega); have h5 := h 5 (by omega); have h6 := h 6 (by omega)
  simp [nm] at h0 h1 h2 h3 h4 h5 h6
  have e0 := beq_eq_false_iff_ne.2 h0; have e1 := beq_eq_false_iff_ne.2 h1; have e2 := beq_eq_false_iff_ne.2 h2; have e3 := beq_eq_false_iff_ne.2 h3; have e4 := beq_eq_false_iff_ne.2 h4; have e5 := beq_eq_false_iff_ne.2 h5; have e6 := beq_eq_false_iff_ne.2 h6
  simp [law07_ModeTells_l2, ref07_Name, wr]
  simp only [e0, e1, e2, e3, e4, e5, e6, cond_false]
end none_
theorem tells_first : ∀ a ∈ [(0 : Int), 1, 2, 3, 4, 5, 6, 7], law07_ModeTells 100 a (nm 0) = some true := fun a ha => tells_in a ha 0 (by decide)
theorem tells_none_in (s : ByteArray) (h : ∀ k, k ≤ 6 → (s.toList == (nm k).toList) = false) : ∀ a ∈ [(0 : Int), 1, 2, 3, 4, 5, 6, 7], law07_ModeTells 100 a s = some true := by
  intro a ha
  have hrest : ∀ a ∈ [(0 : Int), 1, 2, 3, 4, 5, 6, 7], ((mode_Check 100 a).bind fun y418 => (ref07_Is 100 a).bind fun y429 =>
      (cond ((!((y418 == 0) == y429)) || ((y418 != 0) && (y418 != 170))) (some true) ((mode_OfTables 100 a).bind fun y734 => (ref07_Tables 100 a).bind fun y741 => some (!(y734 == y741))))) = some false ∧
      ((mode_OfKeys 100 a).bind fun y710 => (ref07_Keys 100 a).bind fun y717 => some (!(y710 == y717))) = some false ∧
      ((mode_Text 100 a).bind fun y686 => (ref07_Name 100 a).bind fun y693 => some (!(y686.toList == y693.toList))) = some false := by decide +kernel
  obtain ⟨h1, h2, h3⟩ := hrest a ha
  obtain ⟨y1, e1⟩ : ∃ y, mode_Check 100 a = some y := by
    cases hq : mode_Check 100 a with
    | none => rw [hq] at h1; cases h1
    | some y => exact ⟨y, rfl⟩
  obtain ⟨y2, e2⟩ : ∃ y, ref07_Is 100 a = some y := ⟨_, rfl⟩
  rw [e1, e2] at h1
  simp only [Option.bind_some] at h1
  unfold law07_ModeTells
  rw [wakes100]
  simp only [Option.bind_some, Bool.not_true, cond_false]
  cases hs : decide ((s.size : Int) > 100)
  · simp only [cond_false, e1, e2, Option.bind_some]
    rw [h1]
    simp only [Option.bind_some, law07_ModeTells_j3, law07_ModeTells_j2, law07_ModeTells_j1, cond_false, h2, h3, parse_none h, tells_loop h]
  · rfl
theorem tells (a : Int) (s : ByteArray) : law07_ModeTells 100 a s = some true := by
  rw [tells_cl]
  rcases names_or s with ⟨k, hk, rfl⟩ | h
  · exact tells_in _ (cl_mem a) k (mem7 hk)
  · exact tells_none_in s h _ (cl_mem a)

theorem back_in : ∀ a ∈ [(0 : Int), 1, 2, 3, 4, 5, 6, 7], ∀ k ∈ [0, 1, 2, 3, 4, 5, 6], law07_ModeBack 100 a (nm k) = some true := by decide +kernel
theorem back_out {a : Int} (hc : ¬(0 ≤ a ∧ a ≤ 6)) (s : ByteArray) : law07_ModeBack 100 a s = law07_ModeBack_j2 100 s := by
  simp [law07_ModeBack, wakes100, text_out hc, check_out hc]
theorem back_any {a : Int} (hc : 0 ≤ a ∧ a ≤ 6) (s : ByteArray) : law07_ModeBack 100 a s = law07_ModeBack_j2 100 s := by
  have key : ∀ a ∈ [(0 : Int), 1, 2, 3, 4, 5, 6], mode_Text 100 a = some (nm a.toNat) ∧ mode_Parse 100 (nm a.toNat) = some (a, 0) ∧ ((nm a.toNat).toList == (ByteArray.mk #[]).toList) = false := by decide +kernel
  obtain ⟨h1, h2, h3⟩ := key a (in_mem hc)
  unfold law07_ModeBack
  rw [wakes100]
  simp only [Option.bind_some, Bool.not_true, cond_false, h1, h3, Bool.not_false, cond_true, h2]
  simp
theorem back2_in : ∀ k ∈ [0, 1, 2, 3, 4, 5, 6], law07_ModeBack_j2 100 (nm k) = some true := by decide +kernel
theorem back (a : Int) (s : ByteArray) : law07_ModeBack 100 a s = some true := by
  have e : law07_ModeBack 100 a s = law07_ModeBack_j2 100 s := by
    by_cases hc : 0 ≤ a ∧ a ≤ 6
    · exact back_any hc s
    · exact back_out hc s
  rw [e]
  rcases names_or s with ⟨k, hk, rfl⟩ | h
  · exact back2_in k (mem7 hk)
  · simp [law07_ModeBack_j2, law07_ModeBack_j1, parse_none h]
end Go.Proofs.Ytghinjlfaicpjaa
