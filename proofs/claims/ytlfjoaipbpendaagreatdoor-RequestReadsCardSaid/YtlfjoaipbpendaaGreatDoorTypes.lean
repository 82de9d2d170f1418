/- The plain types, printed by program. -/
import Derived.Test.YtlfjoaipbpendaaGreatDoorProg
import Derived.Test.YtlfjoaipbpendaaGreatDoorHn
import Derived.KernelRfl
import Derived.Test.YtlfjoaipbpendaaGreatDoorSx
import Derived.Test.YtlfjoaipbpendaaGreatDoorShelf
namespace Go.Proofs.YtlfjoaipbpendaaGreatDoor
open Go Go.Bur Go.RowKit
set_option linter.unusedVariables false
set_option linter.unusedSimpArgs false
set_option maxRecDepth 100000
noncomputable section
structure Bounds where
  min : Int
  max : Int
def Bounds.eqb (a b : Bounds) : Bool := ((a.min == b.min) && ((a.max == b.max) && true))
structure Schema where
  tables : List Bounds
structure Key where
  table : Int
  id : Int
def Key.eqb (a b : Key) : Bool := ((a.table == b.table) && ((a.id == b.id) && true))
structure Request where
  kind : Int
  key : Key
  to : Key
  val : Int
  note : ByteArray
  n : Int
def Request.eqb (a b : Request) : Bool := ((a.kind == b.kind) && (((a.key.table == b.key.table) && ((a.key.id == b.key.id) && true)) && (((a.to.table == b.to.table) && ((a.to.id == b.to.id) && true)) && ((a.val == b.val) && ((a.note.toList == b.note.toList) && ((a.n == b.n) && true))))))
structure row_rule where
  is : Bool
  no : Int
def row_rule.eqb (a b : row_rule) : Bool := ((a.is == b.is) && ((a.no == b.no) && true))
structure request_need where
  table : Int
  key : Int
def request_need.eqb (a b : request_need) : Bool := ((a.table == b.table) && ((a.key == b.key) && true))
structure Res where
  table : Int
  isKey : Bool
  id : Int
def Res.eqb (a b : Res) : Bool := ((a.table == b.table) && ((a.isKey == b.isKey) && ((a.id == b.id) && true)))
structure Want where
  res : Res
  mode : Int
def Want.eqb (a b : Want) : Bool := (((a.res.table == b.res.table) && ((a.res.isKey == b.res.isKey) && ((a.res.id == b.res.id) && true))) && ((a.mode == b.mode) && true))
structure request_reader where
  schema : Schema
  rest : ByteArray
  bad : Bool
structure Row where
  key : Key
  val : Int
  note : ByteArray
def Row.eqb (a b : Row) : Bool := (((a.key.table == b.key.table) && ((a.key.id == b.key.id) && true)) && ((a.val == b.val) && ((a.note.toList == b.note.toList) && true)))
structure law19_Other where
  request : Request
  at_ : Int
  val : Int
  note : ByteArray
def law19_Other.eqb (a b : law19_Other) : Bool := (((a.request.kind == b.request.kind) && (((a.request.key.table == b.request.key.table) && ((a.request.key.id == b.request.key.id) && true)) && (((a.request.to.table == b.request.to.table) && ((a.request.to.id == b.request.to.id) && true)) && ((a.request.val == b.request.val) && ((a.request.note.toList == b.request.note.toList) && ((a.request.n == b.request.n) && true)))))) && ((a.at_ == b.at_) && ((a.val == b.val) && ((a.note.toList == b.note.toList) && true))))
structure Answer where
  err : Int
  rows : List Row
  n : Int
structure ideal_turn where
  s : Schema
  l : List Row
  q : Request
structure Arr2_Request where
  a0 : Request
  a1 : Request
@[reducible] def tabT : Nat → Type
  | 0 => Bounds
  | 1 => Schema
  | 2 => Key
  | 3 => Request
  | 4 => row_rule
  | 5 => request_need
  | 6 => Res
  | 7 => Want
  | 8 => request_reader
  | 9 => Row
  | 10 => law19_Other
  | 11 => Answer
  | 12 => ideal_turn
  | 13 => Arr2_Request
  | _ => Unit
@[reducible] def tabL : Nat → List Ty
  | 0 => [.int .i64, .int .i64]
  | 1 => [.sl (.st 0)]
  | 2 => [.int .i64, .int .u16]
  | 3 => [.int .i64, .int .i64, .int .u16, .int .i64, .int .u16, .int .i64, .str, .int .i64]
  | 4 => [.bool, .int .i64]
  | 5 => [.int .i64, .int .i64]
  | 6 => [.int .i64, .bool, .int .u16]
  | 7 => [.int .i64, .bool, .int .u16, .int .i64]
  | 8 => [.sl (.st 0), .str, .bool]
  | 9 => [.int .i64, .int .u16, .int .i64, .str]
  | 10 => [.int .i64, .int .i64, .int .u16, .int .i64, .int .u16, .int .i64, .str, .int .i64, .int .i64, .int .i64, .str]
  | 11 => [.int .i64, .sl (.st 9), .int .i64]
  | 12 => [.sl (.st 0), .sl (.st 9), .int .i64, .int .i64, .int .u16, .int .i64, .int .u16, .int .i64, .str, .int .i64]
  | 13 => [.int .i64, .int .i64, .int .u16, .int .i64, .int .u16, .int .i64, .str, .int .i64, .int .i64, .int .i64, .int .u16, .int .i64, .int .u16, .int .i64, .str, .int .i64]
  | _ => []
@[reducible] def tabGet : (i : Nat) → tabT i → HL tabT (tabL i)
  | 0, x => (x.min, x.max, ())
  | 1, x => (x.tables, ())
  | 2, x => (x.table, x.id, ())
  | 3, x => (x.kind, x.key.table, x.key.id, x.to.table, x.to.id, x.val, x.note, x.n, ())
  | 4, x => (x.is, x.no, ())
  | 5, x => (x.table, x.key, ())
  | 6, x => (x.table, x.isKey, x.id, ())
  | 7, x => (x.res.table, x.res.isKey, x.res.id, x.mode, ())
  | 8, x => (x.schema.tables, x.rest, x.bad, ())
  | 9, x => (x.key.table, x.key.id, x.val, x.note, ())
  | 10, x => (x.request.kind, x.request.key.table, x.request.key.id, x.request.to.table, x.request.to.id, x.request.val, x.request.note, x.request.n, x.at_, x.val, x.note, ())
  | 11, x => (x.err, x.rows, x.n, ())
  | 12, x => (x.s.tables, x.l, x.q.kind, x.q.key.table, x.q.key.id, x.q.to.table, x.q.to.id, x.q.val, x.q.note, x.q.n, ())
  | 13, x => (x.a0.kind, x.a0.key.table, x.a0.key.id, x.a0.to.table, x.a0.to.id, x.a0.val, x.a0.note, x.a0.n, x.a1.kind, x.a1.key.table, x.a1.key.id, x.a1.to.table, x.a1.to.id, x.a1.val, x.a1.note, x.a1.n, ())
  | _ + 14, _ => ()
@[reducible] def tabMk : (i : Nat) → HL tabT (tabL i) → tabT i
  | 0, h => (Bounds.mk h.1 h.2.1)
  | 1, h => (Schema.mk h.1)
  | 2, h => (Key.mk h.1 h.2.1)
  | 3, h => (Request.mk h.1 (Key.mk h.2.1 h.2.2.1) (Key.mk h.2.2.2.1 h.2.2.2.2.1) h.2.2.2.2.2.1 h.2.2.2.2.2.2.1 h.2.2.2.2.2.2.2.1)
  | 4, h => (row_rule.mk h.1 h.2.1)
  | 5, h => (request_need.mk h.1 h.2.1)
  | 6, h => (Res.mk h.1 h.2.1 h.2.2.1)
  | 7, h => (Want.mk (Res.mk h.1 h.2.1 h.2.2.1) h.2.2.2.1)
  | 8, h => (request_reader.mk (Schema.mk h.1) h.2.1 h.2.2.1)
  | 9, h => (Row.mk (Key.mk h.1 h.2.1) h.2.2.1 h.2.2.2.1)
  | 10, h => (law19_Other.mk (Request.mk h.1 (Key.mk h.2.1 h.2.2.1) (Key.mk h.2.2.2.1 h.2.2.2.2.1) h.2.2.2.2.2.1 h.2.2.2.2.2.2.1 h.2.2.2.2.2.2.2.1) h.2.2.2.2.2.2.2.2.1 h.2.2.2.2.2.2.2.2.2.1 h.2.2.2.2.2.2.2.2.2.2.1)
  | 11, h => (Answer.mk h.1 h.2.1 h.2.2.1)
  | 12, h => (ideal_turn.mk (Schema.mk h.1) h.2.1 (Request.mk h.2.2.1 (Key.mk h.2.2.2.1 h.2.2.2.2.1) (Key.mk h.2.2.2.2.2.1 h.2.2.2.2.2.2.1) h.2.2.2.2.2.2.2.1 h.2.2.2.2.2.2.2.2.1 h.2.2.2.2.2.2.2.2.2.1))
  | 13, h => (Arr2_Request.mk (Request.mk h.1 (Key.mk h.2.1 h.2.2.1) (Key.mk h.2.2.2.1 h.2.2.2.2.1) h.2.2.2.2.2.1 h.2.2.2.2.2.2.1 h.2.2.2.2.2.2.2.1) (Request.mk h.2.2.2.2.2.2.2.2.1 (Key.mk h.2.2.2.2.2.2.2.2.2.1 h.2.2.2.2.2.2.2.2.2.2.1) (Key.mk h.2.2.2.2.2.2.2.2.2.2.2.1 h.2.2.2.2.2.2.2.2.2.2.2.2.1) h.2.2.2.2.2.2.2.2.2.2.2.2.2.1 h.2.2.2.2.2.2.2.2.2.2.2.2.2.2.1 h.2.2.2.2.2.2.2.2.2.2.2.2.2.2.2.1))
  | _ + 14, _ => ()
@[reducible] def tab : Tab := mkTab tabT tabL tabGet tabMk 2
theorem tabOk : TabOk tab where
  mk_get i x := by
    match i, x with
    | 0, _ => rfl
    | 1, _ => rfl
    | 2, _ => rfl
    | 3, _ => rfl
    | 4, _ => rfl
    | 5, _ => rfl
    | 6, _ => rfl
    | 7, _ => rfl
    | 8, _ => rfl
    | 9, _ => rfl
    | 10, _ => rfl
    | 11, _ => rfl
    | 12, _ => rfl
    | 13, _ => rfl
    | _ + 14, _ => rfl
  get_mk i h := by
    match i, h with
    | 0, _ => rfl
    | 1, _ => rfl
    | 2, _ => rfl
    | 3, _ => rfl
    | 4, _ => rfl
    | 5, _ => rfl
    | 6, _ => rfl
    | 7, _ => rfl
    | 8, _ => rfl
    | 9, _ => rfl
    | 10, _ => rfl
    | 11, _ => rfl
    | 12, _ => rfl
    | 13, _ => rfl
    | _ + 14, _ => rfl
  leaf i := by
    match i with
    | 0 => exact fun t h => List.all_eq_true.1 (by kernel_rfl : (tabL 0).all Ty.leaf = true) t h
    | 1 => exact fun t h => List.all_eq_true.1 (by kernel_rfl : (tabL 1).all Ty.leaf = true) t h
    | 2 => exact fun t h => List.all_eq_true.1 (by kernel_rfl : (tabL 2).all Ty.leaf = true) t h
    | 3 => exact fun t h => List.all_eq_true.1 (by kernel_rfl : (tabL 3).all Ty.leaf = true) t h
    | 4 => exact fun t h => List.all_eq_true.1 (by kernel_rfl : (tabL 4).all Ty.leaf = true) t h
    | 5 => exact fun t h => List.all_eq_true.1 (by kernel_rfl : (tabL 5).all Ty.leaf = true) t h
    | 6 => exact fun t h => List.all_eq_true.1 (by kernel_rfl : (tabL 6).all Ty.leaf = true) t h
    | 7 => exact fun t h => List.all_eq_true.1 (by kernel_rfl : (tabL 7).all Ty.leaf = true) t h
    | 8 => exact fun t h => List.all_eq_true.1 (by kernel_rfl : (tabL 8).all Ty.leaf = true) t h
    | 9 => exact fun t h => List.all_eq_true.1 (by kernel_rfl : (tabL 9).all Ty.leaf = true) t h
    | 10 => exact fun t h => List.all_eq_true.1 (by kernel_rfl : (tabL 10).all Ty.leaf = true) t h
    | 11 => exact fun t h => List.all_eq_true.1 (by kernel_rfl : (tabL 11).all Ty.leaf = true) t h
    | 12 => exact fun t h => List.all_eq_true.1 (by kernel_rfl : (tabL 12).all Ty.leaf = true) t h
    | 13 => exact fun t h => List.all_eq_true.1 (by kernel_rfl : (tabL 13).all Ty.leaf = true) t h
    | _ + 14 => exact fun t h => (by cases h)
  sz i := by
    match i with
    | 0 => rfl
    | 1 => rfl
    | 2 => rfl
    | 3 => rfl
    | 4 => rfl
    | 5 => rfl
    | 6 => rfl
    | 7 => rfl
    | 8 => rfl
    | 9 => rfl
    | 10 => rfl
    | 11 => rfl
    | 12 => rfl
    | 13 => rfl
    | _ + 14 => rfl
  rep i w vs x := by
    match i, x with
    | 0, _ => exact Iff.rfl
    | 1, _ => exact Iff.rfl
    | 2, _ => exact Iff.rfl
    | 3, _ => exact Iff.rfl
    | 4, _ => exact Iff.rfl
    | 5, _ => exact Iff.rfl
    | 6, _ => exact Iff.rfl
    | 7, _ => exact Iff.rfl
    | 8, _ => exact Iff.rfl
    | 9, _ => exact Iff.rfl
    | 10, _ => exact Iff.rfl
    | 11, _ => exact Iff.rfl
    | 12, _ => exact Iff.rfl
    | 13, _ => exact Iff.rfl
    | _ + 14, _ => exact Iff.rfl
def addO : Option Nat := none
theorem addOk : AddOk Tryz.prog addO := addOk_none _
@[reducible] def dpO : List (TypeId × List (Option TypeId)) := []
@[reducible] def tyOf : TypeId → Option Ty
  | 2 => some (.int .i64)
  | 3 => some (.int .i64)
  | 4 => some (.bool)
  | 5 => some (.int .u8)
  | 6 => some (.int .u8)
  | 9 => some (.str)
  | 10 => some (.str)
  | 11 => some (.str)
  | 12 => some (.int .u64)
  | 21 => some (.int .i32)
  | 22 => some (.sl (.st 0))
  | 24 => some (.st 1)
  | 25 => some (.int .u16)
  | 27 => some (.st 2)
  | 29 => some (.st 3)
  | 32 => some (.int .i64)
  | 41 => some (.sl (.st 7))
  | 46 => some (.st 6)
  | 48 => some (.st 7)
  | 57 => some (.sl (.st 9))
  | 59 => some (.st 10)
  | 63 => some (.st 11)
  | 67 => some (.st 9)
  | 71 => some (.int .u64)
  | 74 => some (.st 13)
  | 79 => some (.sl (.st 3))
  | 87 => some (.st 0)
  | 92 => some (.st 8)
  | 110 => some (.st 4)
  | 115 => some (.sl (.str))
  | 126 => some (.int .u64)
  | 128 => some (.st 5)
  | 130 => some (.sl (.st 2))
  | 132 => some (.sl (.int .i64))
  | 137 => some (.sl (.st 4))
  | 140 => some (.st 12)
  | 145 => some (.sl (.int .u8))
  | 179 => some (.int .i64)
  | 186 => some (.int .u32)
  | 195 => some (.int .i64)
  | 202 => some (.int .u64)
  | 232 => some (.int .u8)
  | 233 => some (.int .u8)
  | 235 => some (.int .i32)
  | 236 => some (.int .i32)
  | _ => none
end
end Go.Proofs.YtlfjoaipbpendaaGreatDoor
