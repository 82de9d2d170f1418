/- What the laws are handed, read as plain data; printed by program. -/
import Derived.Test.YtlflbhhajnoelaaTypes
import Derived.Test.YtlflbhhajnoelaaOpen
namespace Go.Proofs.Ytlflbhhajnoelaa
open Go.Bur Go.RowKit
set_option linter.unusedVariables false
set_option maxRecDepth 100000
theorem rd_2 : Rd Try.prog 2 (Flat.toGoT (flatI .i64)) (inI .i64) := rd_int Try.underlying2
def ok_Bounds (x : Bounds) : Prop := (inI .i64 x.min) ∧ (inI .i64 x.max)
theorem rd_61 : Rd Try.prog 61 (Flat.toGoT flat_Bounds) ok_Bounds := by
  intro H enc w base spare held fuel cs x h
  obtain ⟨xs, m, _, _, hl, hn, hf⟩ := DataW.trod_struct Try.underlying61 h
  obtain ⟨c0, c1, rfl⟩ := len_2 (hl.trans (by kernel_rfl : Try.prog.cellsOf 61 = 2))
  have k0 := (hf 0 _ rfl).trans (List.getElem?_eq_getElem (by rw [hn]; decide))
  obtain ⟨y0, e0, o0⟩ := rd_2 _ _ _ _ _ _ _ _ _ k0
  replace e0 : [c0] = Flat.enc (self := (flatI .i64)) y0 := e0
  have k1 := (hf 1 _ rfl).trans (List.getElem?_eq_getElem (by rw [hn]; decide))
  obtain ⟨y1, e1, o1⟩ := rd_2 _ _ _ _ _ _ _ _ _ k1
  replace e1 : [c1] = Flat.enc (self := (flatI .i64)) y1 := e1
  cases e0
  cases e1
  exact ⟨Bounds.mk y0 y1, rfl, ⟨o0, o1⟩⟩
def ok_Schema (x : Schema) : Prop := ((∀ y ∈ x.tables, ok_Bounds y) ∧ x.tables.length ≤ maxLen)
theorem rd_3 : Rd Try.prog 3 (Flat.toGoT (flatI .i64)) (inI .i64) := rd_int Try.underlying3
theorem rd_26 : Rd Try.prog 26 (Flat.toGoT (flatI .u16)) (inI .u16) := rd_int Try.underlying26
def ok_Key (x : Key) : Prop := (inI .i64 x.table) ∧ (inI .u16 x.id)
theorem rd_28 : Rd Try.prog 28 (Flat.toGoT flat_Key) ok_Key := by
  intro H enc w base spare held fuel cs x h
  obtain ⟨xs, m, _, _, hl, hn, hf⟩ := DataW.trod_struct Try.underlying28 h
  obtain ⟨c0, c1, rfl⟩ := len_2 (hl.trans (by kernel_rfl : Try.prog.cellsOf 28 = 2))
  have k0 := (hf 0 _ rfl).trans (List.getElem?_eq_getElem (by rw [hn]; decide))
  obtain ⟨y0, e0, o0⟩ := rd_3 _ _ _ _ _ _ _ _ _ k0
  replace e0 : [c0] = Flat.enc (self := (flatI .i64)) y0 := e0
  have k1 := (hf 1 _ rfl).trans (List.getElem?_eq_getElem (by rw [hn]; decide))
  obtain ⟨y1, e1, o1⟩ := rd_26 _ _ _ _ _ _ _ _ _ k1
  replace e1 : [c1] = Flat.enc (self := (flatI .u16)) y1 := e1
  cases e0
  cases e1
  exact ⟨Key.mk y0 y1, rfl, ⟨o0, o1⟩⟩
theorem rd_9 : Rd Try.prog 9 (Flat.toGoT flat_str) (fun s => s.size ≤ maxLen) := rd_str Try.underlying9
def ok_Row (x : Row) : Prop := (ok_Key x.key) ∧ (inI .i64 x.val) ∧ (x.note.size ≤ maxLen)
theorem rd_38 : Rd Try.prog 38 (Flat.toGoT flat_Row) ok_Row := by
  intro H enc w base spare held fuel cs x h
  obtain ⟨xs, m, _, _, hl, hn, hf⟩ := DataW.trod_struct Try.underlying38 h
  obtain ⟨c0, c1, c2, c3, rfl⟩ := len_4 (hl.trans (by kernel_rfl : Try.prog.cellsOf 38 = 4))
  have k0 := (hf 0 _ rfl).trans (List.getElem?_eq_getElem (by rw [hn]; decide))
  obtain ⟨y0, e0, o0⟩ := rd_28 _ _ _ _ _ _ _ _ _ k0
  replace e0 : [c0, c1] = Flat.enc (self := flat_Key) y0 := e0
  have k1 := (hf 1 _ rfl).trans (List.getElem?_eq_getElem (by rw [hn]; decide))
  obtain ⟨y1, e1, o1⟩ := rd_2 _ _ _ _ _ _ _ _ _ k1
  replace e1 : [c2] = Flat.enc (self := (flatI .i64)) y1 := e1
  have k2 := (hf 2 _ rfl).trans (List.getElem?_eq_getElem (by rw [hn]; decide))
  obtain ⟨y2, e2, o2⟩ := rd_9 _ _ _ _ _ _ _ _ _ k2
  replace e2 : [c3] = Flat.enc (self := flat_str) y2 := e2
  cases e0
  cases e1
  cases e2
  exact ⟨Row.mk y0 y1 y2, rfl, ⟨o0, o1, o2⟩⟩
end Go.Proofs.Ytlflbhhajnoelaa
