/- The plain types, printed by program. -/
import Derived.Test.YtegnflodgnfffaaGreatProg
import Derived.Test.YtegnflodgnfffaaGreatHn
import Derived.KernelRfl
import Derived.Test.YtegnflodgnfffaaGreatCp
import Derived.Test.YtegnflodgnfffaaGreatShelf
namespace Go.Proofs.YtegnflodgnfffaaGreat
open Go Go.Bur Go.RowKit
set_option linter.unusedVariables false
set_option linter.unusedSimpArgs false
set_option maxRecDepth 100000
noncomputable section
structure Bounds where
  min : Int
  max : Int
def Bounds.eqb (a b : Bounds) : Bool := ((a.min == b.min) && ((a.max == b.max) && true))
structure Schema where
  tables : List Bounds
structure Key where
  table : Int
  id : Int
def Key.eqb (a b : Key) : Bool := ((a.table == b.table) && ((a.id == b.id) && true))
structure Share where
  txn : Int
  sum : Int
  hi : Int
  lo : Int
def Share.eqb (a b : Share) : Bool := ((a.txn == b.txn) && ((a.sum == b.sum) && ((a.hi == b.hi) && ((a.lo == b.lo) && true))))
structure Pending where
  key : Key
  value : Int
  shares : List Share
structure Escrow where
  rows : List Pending
structure Row where
  key : Key
  val : Int
  note : ByteArray
def Row.eqb (a b : Row) : Bool := (((a.key.table == b.key.table) && ((a.key.id == b.key.id) && true)) && ((a.val == b.val) && ((a.note.toList == b.note.toList) && true)))
structure Request where
  kind : Int
  key : Key
  to : Key
  val : Int
  note : ByteArray
  n : Int
def Request.eqb (a b : Request) : Bool := ((a.kind == b.kind) && (((a.key.table == b.key.table) && ((a.key.id == b.key.id) && true)) && (((a.to.table == b.to.table) && ((a.to.id == b.to.id) && true)) && ((a.val == b.val) && ((a.note.toList == b.note.toList) && ((a.n == b.n) && true))))))
structure Answer where
  err : Int
  rows : List Row
  n : Int
structure Entry where
  txn : Int
  request : Request
  answer : Answer
structure History where
  schema : Schema
  begun : List Row
  entries : List Entry
structure row_rule where
  is : Bool
  no : Int
def row_rule.eqb (a b : row_rule) : Bool := ((a.is == b.is) && ((a.no == b.no) && true))
structure Serial where
  schema : Schema
  rows : List Row
  begun : List Row
  marks : List (List Row)
  over : Bool
structure judge_run where
  serial : Serial
structure ideal_turn where
  s : Schema
  l : List Row
  q : Request
structure escrow_wide where
  high : Int
  low : Int
def escrow_wide.eqb (a b : escrow_wide) : Bool := ((a.high == b.high) && ((a.low == b.low) && true))
structure ref10_Big where
  h : Int
  l : Int
def ref10_Big.eqb (a b : ref10_Big) : Bool := ((a.h == b.h) && ((a.l == b.l) && true))
structure Res where
  table : Int
  isKey : Bool
  id : Int
def Res.eqb (a b : Res) : Bool := ((a.table == b.table) && ((a.isKey == b.isKey) && ((a.id == b.id) && true)))
structure Hold where
  txn : Int
  mode : Int
def Hold.eqb (a b : Hold) : Bool := ((a.txn == b.txn) && ((a.mode == b.mode) && true))
structure Wait where
  txn : Int
  mode : Int
  held : Int
def Wait.eqb (a b : Wait) : Bool := ((a.txn == b.txn) && ((a.mode == b.mode) && ((a.held == b.held) && true)))
structure Queue where
  res : Res
  holders : List Hold
  waiters : List Wait
structure Locks where
  queues : List Queue
structure Edge where
  from_ : Int
  to : Int
def Edge.eqb (a b : Edge) : Bool := ((a.from_ == b.from_) && ((a.to == b.to) && true))
@[reducible] def tabT : Nat → Type
  | 0 => Bounds
  | 1 => Schema
  | 2 => Key
  | 3 => Share
  | 4 => Pending
  | 5 => Escrow
  | 6 => Row
  | 7 => Request
  | 8 => Answer
  | 9 => Entry
  | 10 => History
  | 11 => row_rule
  | 12 => Serial
  | 13 => judge_run
  | 14 => ideal_turn
  | 15 => escrow_wide
  | 16 => ref10_Big
  | 17 => Res
  | 18 => Hold
  | 19 => Wait
  | 20 => Queue
  | 21 => Locks
  | 22 => Edge
  | _ => Unit
@[reducible] def tabL : Nat → List Ty
  | 0 => [.int .i64, .int .i64]
  | 1 => [.sl (.st 0)]
  | 2 => [.int .i64, .int .u16]
  | 3 => [.int .i64, .int .i64, .int .i64, .int .i64]
  | 4 => [.int .i64, .int .u16, .int .i64, .sl (.st 3)]
  | 5 => [.sl (.st 4)]
  | 6 => [.int .i64, .int .u16, .int .i64, .str]
  | 7 => [.int .i64, .int .i64, .int .u16, .int .i64, .int .u16, .int .i64, .str, .int .i64]
  | 8 => [.int .i64, .sl (.st 6), .int .i64]
  | 9 => [.int .i64, .int .i64, .int .i64, .int .u16, .int .i64, .int .u16, .int .i64, .str, .int .i64, .int .i64, .sl (.st 6), .int .i64]
  | 10 => [.sl (.st 0), .sl (.st 6), .sl (.st 9)]
  | 11 => [.bool, .int .i64]
  | 12 => [.sl (.st 0), .sl (.st 6), .sl (.st 6), .sl (.sl (.st 6)), .bool]
  | 13 => [.sl (.st 0), .sl (.st 6), .sl (.st 6), .sl (.sl (.st 6)), .bool]
  | 14 => [.sl (.st 0), .sl (.st 6), .int .i64, .int .i64, .int .u16, .int .i64, .int .u16, .int .i64, .str, .int .i64]
  | 15 => [.int .i64, .int .u64]
  | 16 => [.int .i64, .int .i64]
  | 17 => [.int .i64, .bool, .int .u16]
  | 18 => [.int .i64, .int .i64]
  | 19 => [.int .i64, .int .i64, .int .i64]
  | 20 => [.int .i64, .bool, .int .u16, .sl (.st 18), .sl (.st 19)]
  | 21 => [.sl (.st 20)]
  | 22 => [.int .i64, .int .i64]
  | _ => []
@[reducible] def tabGet : (i : Nat) → tabT i → HL tabT (tabL i)
  | 0, x => (x.min, x.max, ())
  | 1, x => (x.tables, ())
  | 2, x => (x.table, x.id, ())
  | 3, x => (x.txn, x.sum, x.hi, x.lo, ())
  | 4, x => (x.key.table, x.key.id, x.value, x.shares, ())
  | 5, x => (x.rows, ())
  | 6, x => (x.key.table, x.key.id, x.val, x.note, ())
  | 7, x => (x.kind, x.key.table, x.key.id, x.to.table, x.to.id, x.val, x.note, x.n, ())
  | 8, x => (x.err, x.rows, x.n, ())
  | 9, x => (x.txn, x.request.kind, x.request.key.table, x.request.key.id, x.request.to.table, x.request.to.id, x.request.val, x.request.note, x.request.n, x.answer.err, x.answer.rows, x.answer.n, ())
  | 10, x => (x.schema.tables, x.begun, x.entries, ())
  | 11, x => (x.is, x.no, ())
  | 12, x => (x.schema.tables, x.rows, x.begun, x.marks, x.over, ())
  | 13, x => (x.serial.schema.tables, x.serial.rows, x.serial.begun, x.serial.marks, x.serial.over, ())
  | 14, x => (x.s.tables, x.l, x.q.kind, x.q.key.table, x.q.key.id, x.q.to.table, x.q.to.id, x.q.val, x.q.note, x.q.n, ())
  | 15, x => (x.high, x.low, ())
  | 16, x => (x.h, x.l, ())
  | 17, x => (x.table, x.isKey, x.id, ())
  | 18, x => (x.txn, x.mode, ())
  | 19, x => (x.txn, x.mode, x.held, ())
  | 20, x => (x.res.table, x.res.isKey, x.res.id, x.holders, x.waiters, ())
  | 21, x => (x.queues, ())
  | 22, x => (x.from_, x.to, ())
  | _ + 23, _ => ()
@[reducible] def tabMk : (i : Nat) → HL tabT (tabL i) → tabT i
  | 0, h => (Bounds.mk h.1 h.2.1)
  | 1, h => (Schema.mk h.1)
  | 2, h => (Key.mk h.1 h.2.1)
  | 3, h => (Share.mk h.1 h.2.1 h.2.2.1 h.2.2.2.1)
  | 4, h => (Pending.mk (Key.mk h.1 h.2.1) h.2.2.1 h.2.2.2.1)
  | 5, h => (Escrow.mk h.1)
  | 6, h => (Row.mk (Key.mk h.1 h.2.1) h.2.2.1 h.2.2.2.1)
  | 7, h => (Request.mk h.1 (Key.mk h.2.1 h.2.2.1) (Key.mk h.2.2.2.1 h.2.2.2.2.1) h.2.2.2.2.2.1 h.2.2.2.2.2.2.1 h.2.2.2.2.2.2.2.1)
  | 8, h => (Answer.mk h.1 h.2.1 h.2.2.1)
  | 9, h => (Entry.mk h.1 (Request.mk h.2.1 (Key.mk h.2.2.1 h.2.2.2.1) (Key.mk h.2.2.2.2.1 h.2.2.2.2.2.1) h.2.2.2.2.2.2.1 h.2.2.2.2.2.2.2.1 h.2.2.2.2.2.2.2.2.1) (Answer.mk h.2.2.2.2.2.2.2.2.2.1 h.2.2.2.2.2.2.2.2.2.2.1 h.2.2.2.2.2.2.2.2.2.2.2.1))
  | 10, h => (History.mk (Schema.mk h.1) h.2.1 h.2.2.1)
  | 11, h => (row_rule.mk h.1 h.2.1)
  | 12, h => (Serial.mk (Schema.mk h.1) h.2.1 h.2.2.1 h.2.2.2.1 h.2.2.2.2.1)
  | 13, h => (judge_run.mk (Serial.mk (Schema.mk h.1) h.2.1 h.2.2.1 h.2.2.2.1 h.2.2.2.2.1))
  | 14, h => (ideal_turn.mk (Schema.mk h.1) h.2.1 (Request.mk h.2.2.1 (Key.mk h.2.2.2.1 h.2.2.2.2.1) (Key.mk h.2.2.2.2.2.1 h.2.2.2.2.2.2.1) h.2.2.2.2.2.2.2.1 h.2.2.2.2.2.2.2.2.1 h.2.2.2.2.2.2.2.2.2.1))
  | 15, h => (escrow_wide.mk h.1 h.2.1)
  | 16, h => (ref10_Big.mk h.1 h.2.1)
  | 17, h => (Res.mk h.1 h.2.1 h.2.2.1)
  | 18, h => (Hold.mk h.1 h.2.1)
  | 19, h => (Wait.mk h.1 h.2.1 h.2.2.1)
  | 20, h => (Queue.mk (Res.mk h.1 h.2.1 h.2.2.1) h.2.2.2.1 h.2.2.2.2.1)
  | 21, h => (Locks.mk h.1)
  | 22, h => (Edge.mk h.1 h.2.1)
  | _ + 23, _ => ()
@[reducible] def tab : Tab := mkTab tabT tabL tabGet tabMk 3
theorem tabOk : TabOk tab where
  mk_get i x := by
    match i, x with
    | 0, _ => rfl
    | 1, _ => rfl
    | 2, _ => rfl
    | 3, _ => rfl
    | 4, _ => rfl
    | 5, _ => rfl
    | 6, _ => rfl
    | 7, _ => rfl
    | 8, _ => rfl
    | 9, _ => rfl
    | 10, _ => rfl
    | 11, _ => rfl
    | 12, _ => rfl
    | 13, _ => rfl
    | 14, _ => rfl
    | 15, _ => rfl
    | 16, _ => rfl
    | 17, _ => rfl
    | 18, _ => rfl
    | 19, _ => rfl
    | 20, _ => rfl
    | 21, _ => rfl
    | 22, _ => rfl
    | _ + 23, _ => rfl
  get_mk i h := by
    match i, h with
    | 0, _ => rfl
    | 1, _ => rfl
    | 2, _ => rfl
    | 3, _ => rfl
    | 4, _ => rfl
    | 5, _ => rfl
    | 6, _ => rfl
    | 7, _ => rfl
    | 8, _ => rfl
    | 9, _ => rfl
    | 10, _ => rfl
    | 11, _ => rfl
    | 12, _ => rfl
    | 13, _ => rfl
    | 14, _ => rfl
    | 15, _ => rfl
    | 16, _ => rfl
    | 17, _ => rfl
    | 18, _ => rfl
    | 19, _ => rfl
    | 20, _ => rfl
    | 21, _ => rfl
    | 22, _ => rfl
    | _ + 23, _ => rfl
  leaf i := by
    match i with
    | 0 => exact fun t h => List.all_eq_true.1 (by kernel_rfl : (tabL 0).all Ty.leaf = true) t h
    | 1 => exact fun t h => List.all_eq_true.1 (by kernel_rfl : (tabL 1).all Ty.leaf = true) t h
    | 2 => exact fun t h => List.all_eq_true.1 (by kernel_rfl : (tabL 2).all Ty.leaf = true) t h
    | 3 => exact fun t h => List.all_eq_true.1 (by kernel_rfl : (tabL 3).all Ty.leaf = true) t h
    | 4 => exact fun t h => List.all_eq_true.1 (by kernel_rfl : (tabL 4).all Ty.leaf = true) t h
    | 5 => exact fun t h => List.all_eq_true.1 (by kernel_rfl : (tabL 5).all Ty.leaf = true) t h
    | 6 => exact fun t h => List.all_eq_true.1 (by kernel_rfl : (tabL 6).all Ty.leaf = true) t h
    | 7 => exact fun t h => List.all_eq_true.1 (by kernel_rfl : (tabL 7).all Ty.leaf = true) t h
    | 8 => exact fun t h => List.all_eq_true.1 (by kernel_rfl : (tabL 8).all Ty.leaf = true) t h
    | 9 => exact fun t h => List.all_eq_true.1 (by kernel_rfl : (tabL 9).all Ty.leaf = true) t h
    | 10 => exact fun t h => List.all_eq_true.1 (by kernel_rfl : (tabL 10).all Ty.leaf = true) t h
    | 11 => exact fun t h => List.all_eq_true.1 (by kernel_rfl : (tabL 11).all Ty.leaf = true) t h
    | 12 => exact fun t h => List.all_eq_true.1 (by kernel_rfl : (tabL 12).all Ty.leaf = true) t h
    | 13 => exact fun t h => List.all_eq_true.1 (by kernel_rfl : (tabL 13).all Ty.leaf = true) t h
    | 14 => exact fun t h => List.all_eq_true.1 (by kernel_rfl : (tabL 14).all Ty.leaf = true) t h
    | 15 => exact fun t h => List.all_eq_true.1 (by kernel_rfl : (tabL 15).all Ty.leaf = true) t h
    | 16 => exact fun t h => List.all_eq_true.1 (by kernel_rfl : (tabL 16).all Ty.leaf = true) t h
    | 17 => exact fun t h => List.all_eq_true.1 (by kernel_rfl : (tabL 17).all Ty.leaf = true) t h
    | 18 => exact fun t h => List.all_eq_true.1 (by kernel_rfl : (tabL 18).all Ty.leaf = true) t h
    | 19 => exact fun t h => List.all_eq_true.1 (by kernel_rfl : (tabL 19).all Ty.leaf = true) t h
    | 20 => exact fun t h => List.all_eq_true.1 (by kernel_rfl : (tabL 20).all Ty.leaf = true) t h
    | 21 => exact fun t h => List.all_eq_true.1 (by kernel_rfl : (tabL 21).all Ty.leaf = true) t h
    | 22 => exact fun t h => List.all_eq_true.1 (by kernel_rfl : (tabL 22).all Ty.leaf = true) t h
    | _ + 23 => exact fun t h => (by cases h)
  sz i := by
    match i with
    | 0 => rfl
    | 1 => rfl
    | 2 => rfl
    | 3 => rfl
    | 4 => rfl
    | 5 => rfl
    | 6 => rfl
    | 7 => rfl
    | 8 => rfl
    | 9 => rfl
    | 10 => rfl
    | 11 => rfl
    | 12 => rfl
    | 13 => rfl
    | 14 => rfl
    | 15 => rfl
    | 16 => rfl
    | 17 => rfl
    | 18 => rfl
    | 19 => rfl
    | 20 => rfl
    | 21 => rfl
    | 22 => rfl
    | _ + 23 => rfl
  rep i w vs x := by
    match i, x with
    | 0, _ => exact Iff.rfl
    | 1, _ => exact Iff.rfl
    | 2, _ => exact Iff.rfl
    | 3, _ => exact Iff.rfl
    | 4, _ => exact Iff.rfl
    | 5, _ => exact Iff.rfl
    | 6, _ => exact Iff.rfl
    | 7, _ => exact Iff.rfl
    | 8, _ => exact Iff.rfl
    | 9, _ => exact Iff.rfl
    | 10, _ => exact Iff.rfl
    | 11, _ => exact Iff.rfl
    | 12, _ => exact Iff.rfl
    | 13, _ => exact Iff.rfl
    | 14, _ => exact Iff.rfl
    | 15, _ => exact Iff.rfl
    | 16, _ => exact Iff.rfl
    | 17, _ => exact Iff.rfl
    | 18, _ => exact Iff.rfl
    | 19, _ => exact Iff.rfl
    | 20, _ => exact Iff.rfl
    | 21, _ => exact Iff.rfl
    | 22, _ => exact Iff.rfl
    | _ + 23, _ => exact Iff.rfl
def addO : Option Nat := some 125
theorem addOk : AddOk Tryz.prog addO := addOk_some Tryz.func125 (by kernel_rfl) (by kernel_rfl) (by kernel_rfl) (by kernel_rfl)
@[reducible] def dpO : List (TypeId × List (Option TypeId)) := []
@[reducible] def tyOf : TypeId → Option Ty
  | 2 => some (.int .i64)
  | 3 => some (.int .i64)
  | 4 => some (.bool)
  | 5 => some (.int .u8)
  | 6 => some (.int .u8)
  | 9 => some (.str)
  | 10 => some (.str)
  | 11 => some (.str)
  | 12 => some (.int .u64)
  | 21 => some (.int .i32)
  | 22 => some (.sl (.st 0))
  | 24 => some (.st 1)
  | 25 => some (.sl (.st 4))
  | 27 => some (.st 5)
  | 30 => some (.int .u16)
  | 32 => some (.st 2)
  | 33 => some (.int .i64)
  | 40 => some (.sl (.st 20))
  | 42 => some (.st 21)
  | 43 => some (.sl (.int .i64))
  | 45 => some (.sl (.st 22))
  | 53 => some (.sl (.st 6))
  | 57 => some (.st 7)
  | 59 => some (.st 8)
  | 61 => some (.st 9)
  | 64 => some (.sl (.st 9))
  | 66 => some (.st 10)
  | 69 => some (.sl (.st 3))
  | 71 => some (.st 4)
  | 76 => some (.st 0)
  | 84 => some (.st 17)
  | 85 => some (.sl (.st 18))
  | 86 => some (.sl (.st 19))
  | 88 => some (.st 20)
  | 94 => some (.st 19)
  | 97 => some (.st 22)
  | 102 => some (.st 6)
  | 112 => some (.st 11)
  | 115 => some (.int .u64)
  | 117 => some (.st 15)
  | 123 => some (.st 3)
  | 125 => some (.st 16)
  | 138 => some (.st 18)
  | 150 => some (.sl (.sl (.st 6)))
  | 152 => some (.st 12)
  | 154 => some (.st 13)
  | 158 => some (.sl (.st 11))
  | 159 => some (.sl (.int .i64))
  | 167 => some (.int .u64)
  | 203 => some (.int .i64)
  | 210 => some (.int .u32)
  | 220 => some (.int .u64)
  | 230 => some (.st 14)
  | 261 => some (.int .u8)
  | 262 => some (.int .u8)
  | 265 => some (.int .i32)
  | 266 => some (.int .i32)
  | _ => none
end
end Go.Proofs.YtegnflodgnfffaaGreat
