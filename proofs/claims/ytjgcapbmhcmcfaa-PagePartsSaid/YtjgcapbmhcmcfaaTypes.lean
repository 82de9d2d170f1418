/- The plain types, printed by program. -/
import Derived.Test.YtjgcapbmhcmcfaaProg
import Derived.Test.YtjgcapbmhcmcfaaHn
import Derived.KernelRfl
namespace Go.Proofs.Ytjgcapbmhcmcfaa
open Go Go.Bur Go.RowKit
set_option linter.unusedVariables false
set_option linter.unusedSimpArgs false
set_option maxRecDepth 100000
noncomputable section
structure Key where
  table : Int
  id : Int
def Key.eqb (a b : Key) : Bool := ((a.table == b.table) && ((a.id == b.id) && true))
structure Row where
  key : Key
  val : Int
  note : ByteArray
def Row.eqb (a b : Row) : Bool := (((a.key.table == b.key.table) && ((a.key.id == b.key.id) && true)) && ((a.val == b.val) && ((a.note.toList == b.note.toList) && true)))
structure Kid where
  least : Key
  page : Int
def Kid.eqb (a b : Kid) : Bool := (((a.least.table == b.least.table) && ((a.least.id == b.least.id) && true)) && ((a.page == b.page) && true))
structure Content where
  kind : Int
  rows : List Row
  kids : List Kid
@[reducible] def tabT : Nat → Type
  | 0 => Key
  | 1 => Row
  | 2 => Kid
  | 3 => Content
  | _ => Unit
@[reducible] def tabL : Nat → List Ty
  | 0 => [.int .i64, .int .u16]
  | 1 => [.int .i64, .int .u16, .int .i64, .str]
  | 2 => [.int .i64, .int .u16, .int .i64]
  | 3 => [.int .i64, .sl (.st 1), .sl (.st 2)]
  | _ => []
@[reducible] def tabGet : (i : Nat) → tabT i → HL tabT (tabL i)
  | 0, x => (x.table, x.id, ())
  | 1, x => (x.key.table, x.key.id, x.val, x.note, ())
  | 2, x => (x.least.table, x.least.id, x.page, ())
  | 3, x => (x.kind, x.rows, x.kids, ())
  | _ + 4, _ => ()
@[reducible] def tabMk : (i : Nat) → HL tabT (tabL i) → tabT i
  | 0, h => (Key.mk h.1 h.2.1)
  | 1, h => (Row.mk (Key.mk h.1 h.2.1) h.2.2.1 h.2.2.2.1)
  | 2, h => (Kid.mk (Key.mk h.1 h.2.1) h.2.2.1)
  | 3, h => (Content.mk h.1 h.2.1 h.2.2.1)
  | _ + 4, _ => ()
@[reducible] def tab : Tab := mkTab tabT tabL tabGet tabMk 2
theorem tabOk : TabOk tab where
  mk_get i x := by
    match i, x with
    | 0, _ => rfl
    | 1, _ => rfl
    | 2, _ => rfl
    | 3, _ => rfl
    | _ + 4, _ => rfl
  get_mk i h := by
    match i, h with
    | 0, _ => rfl
    | 1, _ => rfl
    | 2, _ => rfl
    | 3, _ => rfl
    | _ + 4, _ => rfl
  leaf i := by
    match i with
    | 0 => exact fun t h => List.all_eq_true.1 (by kernel_rfl : (tabL 0).all Ty.leaf = true) t h
    | 1 => exact fun t h => List.all_eq_true.1 (by kernel_rfl : (tabL 1).all Ty.leaf = true) t h
    | 2 => exact fun t h => List.all_eq_true.1 (by kernel_rfl : (tabL 2).all Ty.leaf = true) t h
    | 3 => exact fun t h => List.all_eq_true.1 (by kernel_rfl : (tabL 3).all Ty.leaf = true) t h
    | _ + 4 => exact fun t h => (by cases h)
  sz i := by
    match i with
    | 0 => rfl
    | 1 => rfl
    | 2 => rfl
    | 3 => rfl
    | _ + 4 => rfl
  rep i w vs x := by
    match i, x with
    | 0, _ => exact Iff.rfl
    | 1, _ => exact Iff.rfl
    | 2, _ => exact Iff.rfl
    | 3, _ => exact Iff.rfl
    | _ + 4, _ => exact Iff.rfl
@[reducible] def tyOf : TypeId → Option Ty
  | 2 => some (.int .i64)
  | 3 => some (.int .i64)
  | 4 => some (.bool)
  | 5 => some (.int .u8)
  | 6 => some (.int .u8)
  | 9 => some (.str)
  | 10 => some (.str)
  | 11 => some (.str)
  | 12 => some (.int .u64)
  | 21 => some (.int .i32)
  | 22 => some (.sl (.st 1))
  | 23 => some (.sl (.st 2))
  | 25 => some (.st 3)
  | 28 => some (.int .u16)
  | 30 => some (.st 0)
  | 31 => some (.int .i64)
  | 49 => some (.st 1)
  | 51 => some (.sl (.st 3))
  | 52 => some (.sl (.int .i64))
  | 54 => some (.st 2)
  | 82 => some (.sl (.sl (.st 1)))
  | 94 => some (.sl (.int .u16))
  | 109 => some (.sl (.sl (.st 2)))
  | 120 => some (.int .u32)
  | 121 => some (.int .u8)
  | 122 => some (.int .u8)
  | 125 => some (.int .i32)
  | 126 => some (.int .i32)
  | _ => none
end
end Go.Proofs.Ytjgcapbmhcmcfaa
