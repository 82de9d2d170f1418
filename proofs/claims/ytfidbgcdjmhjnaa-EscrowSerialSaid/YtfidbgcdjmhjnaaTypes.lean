/- The plain types, printed by program. -/
import Derived.Test.YtfidbgcdjmhjnaaProg
import Derived.Test.YtfidbgcdjmhjnaaHn
import Derived.KernelRfl
namespace Go.Proofs.Ytfidbgcdjmhjnaa
open Go Go.Bur Go.RowKit
set_option linter.unusedVariables false
set_option linter.unusedSimpArgs false
set_option maxRecDepth 100000
noncomputable section
structure Key where
  table : Int
  id : Int
def Key.eqb (a b : Key) : Bool := ((a.table == b.table) && ((a.id == b.id) && true))
structure Share where
  txn : Int
  sum : Int
  hi : Int
  lo : Int
def Share.eqb (a b : Share) : Bool := ((a.txn == b.txn) && ((a.sum == b.sum) && ((a.hi == b.hi) && ((a.lo == b.lo) && true))))
structure Pending where
  key : Key
  value : Int
  shares : List Share
structure Bounds where
  min : Int
  max : Int
def Bounds.eqb (a b : Bounds) : Bool := ((a.min == b.min) && ((a.max == b.max) && true))
structure Adding where
  txn : Int
  by_ : Int
  now : Int
  bounds : Bounds
def Adding.eqb (a b : Adding) : Bool := ((a.txn == b.txn) && ((a.by_ == b.by_) && ((a.now == b.now) && (((a.bounds.min == b.bounds.min) && ((a.bounds.max == b.bounds.max) && true)) && true))))
structure Escrow where
  rows : List Pending
structure escrow_wide where
  high : Int
  low : Int
def escrow_wide.eqb (a b : escrow_wide) : Bool := ((a.high == b.high) && ((a.low == b.low) && true))
structure ref10_Big where
  h : Int
  l : Int
def ref10_Big.eqb (a b : ref10_Big) : Bool := ((a.h == b.h) && ((a.l == b.l) && true))
structure law10_Op where
  kind : Int
  at_ : Int
  other : Bool
  key : Key
  adding : Adding
def law10_Op.eqb (a b : law10_Op) : Bool := ((a.kind == b.kind) && ((a.at_ == b.at_) && ((a.other == b.other) && (((a.key.table == b.key.table) && ((a.key.id == b.key.id) && true)) && (((a.adding.txn == b.adding.txn) && ((a.adding.by_ == b.adding.by_) && ((a.adding.now == b.adding.now) && (((a.adding.bounds.min == b.adding.bounds.min) && ((a.adding.bounds.max == b.adding.bounds.max) && true)) && true)))) && true)))))
structure Arr2_int64 where
  a0 : Int
  a1 : Int
structure law10_Deed where
  kind : Int
  txn : Int
  by_ : Int
def law10_Deed.eqb (a b : law10_Deed) : Bool := ((a.kind == b.kind) && ((a.txn == b.txn) && ((a.by_ == b.by_) && true)))
structure Arr5_int64 where
  a0 : List Int
  a1 : List Int
  a2 : List Int
  a3 : List Int
  a4 : List Int
structure law10_book where
  e : Escrow
  bounds : Bounds
  value : Int
  stand : Arr5_int64
  ever : Arr5_int64
structure Arr2_int where
  a0 : Int
  a1 : Int
structure Arr2_bool where
  a0 : Bool
  a1 : Bool
@[reducible] def tabT : Nat → Type
  | 0 => Key
  | 1 => Share
  | 2 => Pending
  | 3 => Bounds
  | 4 => Adding
  | 5 => Escrow
  | 6 => escrow_wide
  | 7 => ref10_Big
  | 8 => law10_Op
  | 9 => Arr2_int64
  | 10 => law10_Deed
  | 11 => Arr5_int64
  | 12 => law10_book
  | 13 => Arr2_int
  | 14 => Arr2_bool
  | _ => Unit
@[reducible] def tabL : Nat → List Ty
  | 0 => [.int .i64, .int .u16]
  | 1 => [.int .i64, .int .i64, .int .i64, .int .i64]
  | 2 => [.int .i64, .int .u16, .int .i64, .sl (.st 1)]
  | 3 => [.int .i64, .int .i64]
  | 4 => [.int .i64, .int .i64, .int .i64, .int .i64, .int .i64]
  | 5 => [.sl (.st 2)]
  | 6 => [.int .i64, .int .u64]
  | 7 => [.int .i64, .int .i64]
  | 8 => [.int .i64, .int .i64, .bool, .int .i64, .int .u16, .int .i64, .int .i64, .int .i64, .int .i64, .int .i64]
  | 9 => [.int .i64, .int .i64]
  | 10 => [.int .i64, .int .i64, .int .i64]
  | 11 => [.sl (.int .i64), .sl (.int .i64), .sl (.int .i64), .sl (.int .i64), .sl (.int .i64)]
  | 12 => [.sl (.st 2), .int .i64, .int .i64, .int .i64, .sl (.int .i64), .sl (.int .i64), .sl (.int .i64), .sl (.int .i64), .sl (.int .i64), .sl (.int .i64), .sl (.int .i64), .sl (.int .i64), .sl (.int .i64), .sl (.int .i64)]
  | 13 => [.int .i64, .int .i64]
  | 14 => [.bool, .bool]
  | _ => []
@[reducible] def tabGet : (i : Nat) → tabT i → HL tabT (tabL i)
  | 0, x => (x.table, x.id, ())
  | 1, x => (x.txn, x.sum, x.hi, x.lo, ())
  | 2, x => (x.key.table, x.key.id, x.value, x.shares, ())
  | 3, x => (x.min, x.max, ())
  | 4, x => (x.txn, x.by_, x.now, x.bounds.min, x.bounds.max, ())
  | 5, x => (x.rows, ())
  | 6, x => (x.high, x.low, ())
  | 7, x => (x.h, x.l, ())
  | 8, x => (x.kind, x.at_, x.other, x.key.table, x.key.id, x.adding.txn, x.adding.by_, x.adding.now, x.adding.bounds.min, x.adding.bounds.max, ())
  | 9, x => (x.a0, x.a1, ())
  | 10, x => (x.kind, x.txn, x.by_, ())
  | 11, x => (x.a0, x.a1, x.a2, x.a3, x.a4, ())
  | 12, x => (x.e.rows, x.bounds.min, x.bounds.max, x.value, x.stand.a0, x.stand.a1, x.stand.a2, x.stand.a3, x.stand.a4, x.ever.a0, x.ever.a1, x.ever.a2, x.ever.a3, x.ever.a4, ())
  | 13, x => (x.a0, x.a1, ())
  | 14, x => (x.a0, x.a1, ())
  | _ + 15, _ => ()
@[reducible] def tabMk : (i : Nat) → HL tabT (tabL i) → tabT i
  | 0, h => (Key.mk h.1 h.2.1)
  | 1, h => (Share.mk h.1 h.2.1 h.2.2.1 h.2.2.2.1)
  | 2, h => (Pending.mk (Key.mk h.1 h.2.1) h.2.2.1 h.2.2.2.1)
  | 3, h => (Bounds.mk h.1 h.2.1)
  | 4, h => (Adding.mk h.1 h.2.1 h.2.2.1 (Bounds.mk h.2.2.2.1 h.2.2.2.2.1))
  | 5, h => (Escrow.mk h.1)
  | 6, h => (escrow_wide.mk h.1 h.2.1)
  | 7, h => (ref10_Big.mk h.1 h.2.1)
  | 8, h => (law10_Op.mk h.1 h.2.1 h.2.2.1 (Key.mk h.2.2.2.1 h.2.2.2.2.1) (Adding.mk h.2.2.2.2.2.1 h.2.2.2.2.2.2.1 h.2.2.2.2.2.2.2.1 (Bounds.mk h.2.2.2.2.2.2.2.2.1 h.2.2.2.2.2.2.2.2.2.1)))
  | 9, h => (Arr2_int64.mk h.1 h.2.1)
  | 10, h => (law10_Deed.mk h.1 h.2.1 h.2.2.1)
  | 11, h => (Arr5_int64.mk h.1 h.2.1 h.2.2.1 h.2.2.2.1 h.2.2.2.2.1)
  | 12, h => (law10_book.mk (Escrow.mk h.1) (Bounds.mk h.2.1 h.2.2.1) h.2.2.2.1 (Arr5_int64.mk h.2.2.2.2.1 h.2.2.2.2.2.1 h.2.2.2.2.2.2.1 h.2.2.2.2.2.2.2.1 h.2.2.2.2.2.2.2.2.1) (Arr5_int64.mk h.2.2.2.2.2.2.2.2.2.1 h.2.2.2.2.2.2.2.2.2.2.1 h.2.2.2.2.2.2.2.2.2.2.2.1 h.2.2.2.2.2.2.2.2.2.2.2.2.1 h.2.2.2.2.2.2.2.2.2.2.2.2.2.1))
  | 13, h => (Arr2_int.mk h.1 h.2.1)
  | 14, h => (Arr2_bool.mk h.1 h.2.1)
  | _ + 15, _ => ()
@[reducible] def tab : Tab := mkTab tabT tabL tabGet tabMk 3
theorem tabOk : TabOk tab where
  mk_get i x := by
    match i, x with
    | 0, _ => rfl
    | 1, _ => rfl
    | 2, _ => rfl
    | 3, _ => rfl
    | 4, _ => rfl
    | 5, _ => rfl
    | 6, _ => rfl
    | 7, _ => rfl
    | 8, _ => rfl
    | 9, _ => rfl
    | 10, _ => rfl
    | 11, _ => rfl
    | 12, _ => rfl
    | 13, _ => rfl
    | 14, _ => rfl
    | _ + 15, _ => rfl
  get_mk i h := by
    match i, h with
    | 0, _ => rfl
    | 1, _ => rfl
    | 2, _ => rfl
    | 3, _ => rfl
    | 4, _ => rfl
    | 5, _ => rfl
    | 6, _ => rfl
    | 7, _ => rfl
    | 8, _ => rfl
    | 9, _ => rfl
    | 10, _ => rfl
    | 11, _ => rfl
    | 12, _ => rfl
    | 13, _ => rfl
    | 14, _ => rfl
    | _ + 15, _ => rfl
  leaf i := by
    match i with
    | 0 => exact fun t h => List.all_eq_true.1 (by kernel_rfl : (tabL 0).all Ty.leaf = true) t h
    | 1 => exact fun t h => List.all_eq_true.1 (by kernel_rfl : (tabL 1).all Ty.leaf = true) t h
    | 2 => exact fun t h => List.all_eq_true.1 (by kernel_rfl : (tabL 2).all Ty.leaf = true) t h
    | 3 => exact fun t h => List.all_eq_true.1 (by kernel_rfl : (tabL 3).all Ty.leaf = true) t h
    | 4 => exact fun t h => List.all_eq_true.1 (by kernel_rfl : (tabL 4).all Ty.leaf = true) t h
    | 5 => exact fun t h => List.all_eq_true.1 (by kernel_rfl : (tabL 5).all Ty.leaf = true) t h
    | 6 => exact fun t h => List.all_eq_true.1 (by kernel_rfl : (tabL 6).all Ty.leaf = true) t h
    | 7 => exact fun t h => List.all_eq_true.1 (by kernel_rfl : (tabL 7).all Ty.leaf = true) t h
    | 8 => exact fun t h => List.all_eq_true.1 (by kernel_rfl : (tabL 8).all Ty.leaf = true) t h
    | 9 => exact fun t h => List.all_eq_true.1 (by kernel_rfl : (tabL 9).all Ty.leaf = true) t h
    | 10 => exact fun t h => List.all_eq_true.1 (by kernel_rfl : (tabL 10).all Ty.leaf = true) t h
    | 11 => exact fun t h => List.all_eq_true.1 (by kernel_rfl : (tabL 11).all Ty.leaf = true) t h
    | 12 => exact fun t h => List.all_eq_true.1 (by kernel_rfl : (tabL 12).all Ty.leaf = true) t h
    | 13 => exact fun t h => List.all_eq_true.1 (by kernel_rfl : (tabL 13).all Ty.leaf = true) t h
    | 14 => exact fun t h => List.all_eq_true.1 (by kernel_rfl : (tabL 14).all Ty.leaf = true) t h
    | _ + 15 => exact fun t h => (by cases h)
  sz i := by
    match i with
    | 0 => rfl
    | 1 => rfl
    | 2 => rfl
    | 3 => rfl
    | 4 => rfl
    | 5 => rfl
    | 6 => rfl
    | 7 => rfl
    | 8 => rfl
    | 9 => rfl
    | 10 => rfl
    | 11 => rfl
    | 12 => rfl
    | 13 => rfl
    | 14 => rfl
    | _ + 15 => rfl
  rep i w vs x := by
    match i, x with
    | 0, _ => exact Iff.rfl
    | 1, _ => exact Iff.rfl
    | 2, _ => exact Iff.rfl
    | 3, _ => exact Iff.rfl
    | 4, _ => exact Iff.rfl
    | 5, _ => exact Iff.rfl
    | 6, _ => exact Iff.rfl
    | 7, _ => exact Iff.rfl
    | 8, _ => exact Iff.rfl
    | 9, _ => exact Iff.rfl
    | 10, _ => exact Iff.rfl
    | 11, _ => exact Iff.rfl
    | 12, _ => exact Iff.rfl
    | 13, _ => exact Iff.rfl
    | 14, _ => exact Iff.rfl
    | _ + 15, _ => exact Iff.rfl
def addO : Option Nat := some 89
theorem addOk : AddOk Try.prog addO := addOk_some Try.func89 (by kernel_rfl) (by kernel_rfl) (by kernel_rfl) (by kernel_rfl)
@[reducible] def dpO : List (TypeId × List (Option TypeId)) := [(27, [none, none, none, some 61])]
@[reducible] def tyOf : TypeId → Option Ty
  | 2 => some (.int .i64)
  | 3 => some (.int .i64)
  | 4 => some (.bool)
  | 5 => some (.int .u8)
  | 6 => some (.int .u8)
  | 9 => some (.str)
  | 10 => some (.str)
  | 11 => some (.str)
  | 12 => some (.int .u64)
  | 21 => some (.int .i32)
  | 22 => some (.int .u16)
  | 24 => some (.st 0)
  | 25 => some (.sl (.st 1))
  | 27 => some (.st 2)
  | 28 => some (.sl (.st 4))
  | 30 => some (.sl (.st 2))
  | 32 => some (.st 5)
  | 35 => some (.st 3)
  | 37 => some (.st 4)
  | 38 => some (.int .i64)
  | 42 => some (.sl (.st 5))
  | 43 => some (.sl (.st 0))
  | 55 => some (.sl (.st 8))
  | 57 => some (.st 8)
  | 61 => some (.st 1)
  | 63 => some (.st 9)
  | 64 => some (.sl (.st 10))
  | 66 => some (.sl (.int .i64))
  | 67 => some (.st 11)
  | 69 => some (.st 12)
  | 71 => some (.st 10)
  | 72 => some (.int .u64)
  | 77 => some (.st 13)
  | 78 => some (.st 14)
  | 85 => some (.st 7)
  | 100 => some (.int .u64)
  | 102 => some (.st 6)
  | 147 => some (.sl (.int .i64))
  | 159 => some (.int .u32)
  | 160 => some (.int .u8)
  | 161 => some (.int .u8)
  | 164 => some (.int .i32)
  | 165 => some (.int .i32)
  | _ => none
end
end Go.Proofs.Ytfidbgcdjmhjnaa
