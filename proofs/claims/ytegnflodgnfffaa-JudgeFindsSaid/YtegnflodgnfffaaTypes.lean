/- The plain types, printed by program. -/
import Derived.Test.YtegnflodgnfffaaProg
import Derived.Test.YtegnflodgnfffaaHn
import Derived.KernelRfl
namespace Go.Proofs.Ytegnflodgnfffaa
open Go Go.Bur Go.RowKit
set_option linter.unusedVariables false
set_option linter.unusedSimpArgs false
set_option maxRecDepth 100000
noncomputable section
structure Bounds where
  min : Int
  max : Int
def Bounds.eqb (a b : Bounds) : Bool := ((a.min == b.min) && ((a.max == b.max) && true))
structure Schema where
  tables : List Bounds
structure Key where
  table : Int
  id : Int
def Key.eqb (a b : Key) : Bool := ((a.table == b.table) && ((a.id == b.id) && true))
structure Row where
  key : Key
  val : Int
  note : ByteArray
def Row.eqb (a b : Row) : Bool := (((a.key.table == b.key.table) && ((a.key.id == b.key.id) && true)) && ((a.val == b.val) && ((a.note.toList == b.note.toList) && true)))
structure Request where
  kind : Int
  key : Key
  to : Key
  val : Int
  note : ByteArray
  n : Int
def Request.eqb (a b : Request) : Bool := ((a.kind == b.kind) && (((a.key.table == b.key.table) && ((a.key.id == b.key.id) && true)) && (((a.to.table == b.to.table) && ((a.to.id == b.to.id) && true)) && ((a.val == b.val) && ((a.note.toList == b.note.toList) && ((a.n == b.n) && true))))))
structure Answer where
  err : Int
  rows : List Row
  n : Int
structure Entry where
  txn : Int
  request : Request
  answer : Answer
structure History where
  schema : Schema
  begun : List Row
  entries : List Entry
structure row_rule where
  is : Bool
  no : Int
def row_rule.eqb (a b : row_rule) : Bool := ((a.is == b.is) && ((a.no == b.no) && true))
structure Serial where
  schema : Schema
  rows : List Row
  begun : List Row
  marks : List (List Row)
  over : Bool
structure judge_run where
  serial : Serial
structure ideal_turn where
  s : Schema
  l : List Row
  q : Request
structure law27_Turn where
  requests : List Request
  commits : Bool
structure law27_Lie where
  turns : List law27_Turn
  at_ : Int
@[reducible] def tabT : Nat → Type
  | 0 => Bounds
  | 1 => Schema
  | 2 => Key
  | 3 => Row
  | 4 => Request
  | 5 => Answer
  | 6 => Entry
  | 7 => History
  | 8 => row_rule
  | 9 => Serial
  | 10 => judge_run
  | 11 => ideal_turn
  | 12 => law27_Turn
  | 13 => law27_Lie
  | _ => Unit
@[reducible] def tabL : Nat → List Ty
  | 0 => [.int .i64, .int .i64]
  | 1 => [.sl (.st 0)]
  | 2 => [.int .i64, .int .u16]
  | 3 => [.int .i64, .int .u16, .int .i64, .str]
  | 4 => [.int .i64, .int .i64, .int .u16, .int .i64, .int .u16, .int .i64, .str, .int .i64]
  | 5 => [.int .i64, .sl (.st 3), .int .i64]
  | 6 => [.int .i64, .int .i64, .int .i64, .int .u16, .int .i64, .int .u16, .int .i64, .str, .int .i64, .int .i64, .sl (.st 3), .int .i64]
  | 7 => [.sl (.st 0), .sl (.st 3), .sl (.st 6)]
  | 8 => [.bool, .int .i64]
  | 9 => [.sl (.st 0), .sl (.st 3), .sl (.st 3), .sl (.sl (.st 3)), .bool]
  | 10 => [.sl (.st 0), .sl (.st 3), .sl (.st 3), .sl (.sl (.st 3)), .bool]
  | 11 => [.sl (.st 0), .sl (.st 3), .int .i64, .int .i64, .int .u16, .int .i64, .int .u16, .int .i64, .str, .int .i64]
  | 12 => [.sl (.st 4), .bool]
  | 13 => [.sl (.st 12), .int .i64]
  | _ => []
@[reducible] def tabGet : (i : Nat) → tabT i → HL tabT (tabL i)
  | 0, x => (x.min, x.max, ())
  | 1, x => (x.tables, ())
  | 2, x => (x.table, x.id, ())
  | 3, x => (x.key.table, x.key.id, x.val, x.note, ())
  | 4, x => (x.kind, x.key.table, x.key.id, x.to.table, x.to.id, x.val, x.note, x.n, ())
  | 5, x => (x.err, x.rows, x.n, ())
  | 6, x => (x.txn, x.request.kind, x.request.key.table, x.request.key.id, x.request.to.table, x.request.to.id, x.request.val, x.request.note, x.request.n, x.answer.err, x.answer.rows, x.answer.n, ())
  | 7, x => (x.schema.tables, x.begun, x.entries, ())
  | 8, x => (x.is, x.no, ())
  | 9, x => (x.schema.tables, x.rows, x.begun, x.marks, x.over, ())
  | 10, x => (x.serial.schema.tables, x.serial.rows, x.serial.begun, x.serial.marks, x.serial.over, ())
  | 11, x => (x.s.tables, x.l, x.q.kind, x.q.key.table, x.q.key.id, x.q.to.table, x.q.to.id, x.q.val, x.q.note, x.q.n, ())
  | 12, x => (x.requests, x.commits, ())
  | 13, x => (x.turns, x.at_, ())
  | _ + 14, _ => ()
@[reducible] def tabMk : (i : Nat) → HL tabT (tabL i) → tabT i
  | 0, h => (Bounds.mk h.1 h.2.1)
  | 1, h => (Schema.mk h.1)
  | 2, h => (Key.mk h.1 h.2.1)
  | 3, h => (Row.mk (Key.mk h.1 h.2.1) h.2.2.1 h.2.2.2.1)
  | 4, h => (Request.mk h.1 (Key.mk h.2.1 h.2.2.1) (Key.mk h.2.2.2.1 h.2.2.2.2.1) h.2.2.2.2.2.1 h.2.2.2.2.2.2.1 h.2.2.2.2.2.2.2.1)
  | 5, h => (Answer.mk h.1 h.2.1 h.2.2.1)
  | 6, h => (Entry.mk h.1 (Request.mk h.2.1 (Key.mk h.2.2.1 h.2.2.2.1) (Key.mk h.2.2.2.2.1 h.2.2.2.2.2.1) h.2.2.2.2.2.2.1 h.2.2.2.2.2.2.2.1 h.2.2.2.2.2.2.2.2.1) (Answer.mk h.2.2.2.2.2.2.2.2.2.1 h.2.2.2.2.2.2.2.2.2.2.1 h.2.2.2.2.2.2.2.2.2.2.2.1))
  | 7, h => (History.mk (Schema.mk h.1) h.2.1 h.2.2.1)
  | 8, h => (row_rule.mk h.1 h.2.1)
  | 9, h => (Serial.mk (Schema.mk h.1) h.2.1 h.2.2.1 h.2.2.2.1 h.2.2.2.2.1)
  | 10, h => (judge_run.mk (Serial.mk (Schema.mk h.1) h.2.1 h.2.2.1 h.2.2.2.1 h.2.2.2.2.1))
  | 11, h => (ideal_turn.mk (Schema.mk h.1) h.2.1 (Request.mk h.2.2.1 (Key.mk h.2.2.2.1 h.2.2.2.2.1) (Key.mk h.2.2.2.2.2.1 h.2.2.2.2.2.2.1) h.2.2.2.2.2.2.2.1 h.2.2.2.2.2.2.2.2.1 h.2.2.2.2.2.2.2.2.2.1))
  | 12, h => (law27_Turn.mk h.1 h.2.1)
  | 13, h => (law27_Lie.mk h.1 h.2.1)
  | _ + 14, _ => ()
@[reducible] def tab : Tab := mkTab tabT tabL tabGet tabMk 3
theorem tabOk : TabOk tab where
  mk_get i x := by
    match i, x with
    | 0, _ => rfl
    | 1, _ => rfl
    | 2, _ => rfl
    | 3, _ => rfl
    | 4, _ => rfl
    | 5, _ => rfl
    | 6, _ => rfl
    | 7, _ => rfl
    | 8, _ => rfl
    | 9, _ => rfl
    | 10, _ => rfl
    | 11, _ => rfl
    | 12, _ => rfl
    | 13, _ => rfl
    | _ + 14, _ => rfl
  get_mk i h := by
    match i, h with
    | 0, _ => rfl
    | 1, _ => rfl
    | 2, _ => rfl
    | 3, _ => rfl
    | 4, _ => rfl
    | 5, _ => rfl
    | 6, _ => rfl
    | 7, _ => rfl
    | 8, _ => rfl
    | 9, _ => rfl
    | 10, _ => rfl
    | 11, _ => rfl
    | 12, _ => rfl
    | 13, _ => rfl
    | _ + 14, _ => rfl
  leaf i := by
    match i with
    | 0 => exact fun t h => List.all_eq_true.1 (by kernel_rfl : (tabL 0).all Ty.leaf = true) t h
    | 1 => exact fun t h => List.all_eq_true.1 (by kernel_rfl : (tabL 1).all Ty.leaf = true) t h
    | 2 => exact fun t h => List.all_eq_true.1 (by kernel_rfl : (tabL 2).all Ty.leaf = true) t h
    | 3 => exact fun t h => List.all_eq_true.1 (by kernel_rfl : (tabL 3).all Ty.leaf = true) t h
    | 4 => exact fun t h => List.all_eq_true.1 (by kernel_rfl : (tabL 4).all Ty.leaf = true) t h
    | 5 => exact fun t h => List.all_eq_true.1 (by kernel_rfl : (tabL 5).all Ty.leaf = true) t h
    | 6 => exact fun t h => List.all_eq_true.1 (by kernel_rfl : (tabL 6).all Ty.leaf = true) t h
    | 7 => exact fun t h => List.all_eq_true.1 (by kernel_rfl : (tabL 7).all Ty.leaf = true) t h
    | 8 => exact fun t h => List.all_eq_true.1 (by kernel_rfl : (tabL 8).all Ty.leaf = true) t h
    | 9 => exact fun t h => List.all_eq_true.1 (by kernel_rfl : (tabL 9).all Ty.leaf = true) t h
    | 10 => exact fun t h => List.all_eq_true.1 (by kernel_rfl : (tabL 10).all Ty.leaf = true) t h
    | 11 => exact fun t h => List.all_eq_true.1 (by kernel_rfl : (tabL 11).all Ty.leaf = true) t h
    | 12 => exact fun t h => List.all_eq_true.1 (by kernel_rfl : (tabL 12).all Ty.leaf = true) t h
    | 13 => exact fun t h => List.all_eq_true.1 (by kernel_rfl : (tabL 13).all Ty.leaf = true) t h
    | _ + 14 => exact fun t h => (by cases h)
  sz i := by
    match i with
    | 0 => rfl
    | 1 => rfl
    | 2 => rfl
    | 3 => rfl
    | 4 => rfl
    | 5 => rfl
    | 6 => rfl
    | 7 => rfl
    | 8 => rfl
    | 9 => rfl
    | 10 => rfl
    | 11 => rfl
    | 12 => rfl
    | 13 => rfl
    | _ + 14 => rfl
  rep i w vs x := by
    match i, x with
    | 0, _ => exact Iff.rfl
    | 1, _ => exact Iff.rfl
    | 2, _ => exact Iff.rfl
    | 3, _ => exact Iff.rfl
    | 4, _ => exact Iff.rfl
    | 5, _ => exact Iff.rfl
    | 6, _ => exact Iff.rfl
    | 7, _ => exact Iff.rfl
    | 8, _ => exact Iff.rfl
    | 9, _ => exact Iff.rfl
    | 10, _ => exact Iff.rfl
    | 11, _ => exact Iff.rfl
    | 12, _ => exact Iff.rfl
    | 13, _ => exact Iff.rfl
    | _ + 14, _ => exact Iff.rfl
@[reducible] def tyOf : TypeId → Option Ty
  | 2 => some (.int .i64)
  | 3 => some (.int .i64)
  | 4 => some (.bool)
  | 5 => some (.int .u8)
  | 6 => some (.int .u8)
  | 9 => some (.str)
  | 10 => some (.str)
  | 11 => some (.str)
  | 12 => some (.int .u64)
  | 21 => some (.int .i32)
  | 22 => some (.sl (.st 0))
  | 24 => some (.st 1)
  | 25 => some (.sl (.st 3))
  | 26 => some (.sl (.st 6))
  | 28 => some (.st 7)
  | 29 => some (.sl (.int .i64))
  | 33 => some (.int .i64)
  | 36 => some (.int .u16)
  | 38 => some (.st 2)
  | 40 => some (.st 4)
  | 42 => some (.st 5)
  | 44 => some (.st 6)
  | 46 => some (.int .u64)
  | 48 => some (.sl (.st 12))
  | 56 => some (.st 13)
  | 67 => some (.st 3)
  | 72 => some (.sl (.st 4))
  | 74 => some (.st 12)
  | 75 => some (.sl (.sl (.st 3)))
  | 77 => some (.st 9)
  | 85 => some (.st 0)
  | 95 => some (.st 10)
  | 103 => some (.st 8)
  | 117 => some (.sl (.st 8))
  | 121 => some (.st 11)
  | 155 => some (.int .u32)
  | 156 => some (.int .u8)
  | 157 => some (.int .u8)
  | 160 => some (.int .i32)
  | 161 => some (.int .i32)
  | _ => none
end
end Go.Proofs.Ytegnflodgnfffaa
