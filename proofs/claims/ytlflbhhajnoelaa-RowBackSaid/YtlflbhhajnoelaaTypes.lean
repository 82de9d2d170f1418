/- The plain types, printed by program. -/
import Derived.Test.YtlflbhhajnoelaaProg
import Derived.Test.YtlflbhhajnoelaaNet
import Derived.KernelRfl
namespace Go.Proofs.Ytlflbhhajnoelaa
open Go.Bur Go.RowKit
set_option linter.unusedVariables false
set_option linter.unusedSimpArgs false
set_option maxRecDepth 100000
structure Key where
  table : Int
  id : Int
@[reducible] def flat_Key : Flat Key := ⟨2, fun x => [.int .i64 x.table, .int .u16 x.id], fun _ => rfl, fun x => oneAll rfl⟩
def Key.eqb (a b : Key) : Bool := ((a.table == b.table) && ((a.id == b.id) && true))
structure Row where
  key : Key
  val : Int
  note : ByteArray
@[reducible] def flat_Row : Flat Row := ⟨4, fun x => [.int .i64 x.key.table, .int .u16 x.key.id, .int .i64 x.val, .string x.note], fun _ => rfl, fun x => oneAll rfl⟩
def Row.eqb (a b : Row) : Bool := (((a.key.table == b.key.table) && ((a.key.id == b.key.id) && true)) && ((a.val == b.val) && ((a.note.toList == b.note.toList) && true)))
structure Bounds where
  min : Int
  max : Int
@[reducible] def flat_Bounds : Flat Bounds := ⟨2, fun x => [.int .i64 x.min, .int .i64 x.max], fun _ => rfl, fun x => oneAll rfl⟩
def Bounds.eqb (a b : Bounds) : Bool := ((a.min == b.min) && ((a.max == b.max) && true))
structure Schema where
  tables : (List Bounds)
structure row_rule where
  is : Bool
  no : Int
@[reducible] def flat_row_rule : Flat row_rule := ⟨2, fun x => [.bool x.is, .int .i64 x.no], fun _ => rfl, fun x => oneAll rfl⟩
def row_rule.eqb (a b : row_rule) : Bool := ((a.is == b.is) && ((a.no == b.no) && true))
theorem Key_eql (a0 : Int) (a1 : Int) (b0 : Int) (b1 : Int) (w : World) : EqOk Try.prog .eql 28 (.agg #[.int .i64 a0, .int .u16 a1]) (.agg #[.int .i64 b0, .int .u16 b1]) (.bool (Key.eqb (Key.mk a0 a1) (Key.mk b0 b1))) w := eqOk_eql (by kernel_rfl) (by kernel_rfl)
theorem Key_neq (a0 : Int) (a1 : Int) (b0 : Int) (b1 : Int) (w : World) : EqOk Try.prog .neq 28 (.agg #[.int .i64 a0, .int .u16 a1]) (.agg #[.int .i64 b0, .int .u16 b1]) (.bool (!(Key.eqb (Key.mk a0 a1) (Key.mk b0 b1)))) w := eqOk_neq (by kernel_rfl) (by kernel_rfl)
theorem Row_eql (a0 : Int) (a1 : Int) (a2 : Int) (a3 : ByteArray) (b0 : Int) (b1 : Int) (b2 : Int) (b3 : ByteArray) (w : World) : EqOk Try.prog .eql 38 (.agg #[.int .i64 a0, .int .u16 a1, .int .i64 a2, .string a3]) (.agg #[.int .i64 b0, .int .u16 b1, .int .i64 b2, .string b3]) (.bool (Row.eqb (Row.mk (Key.mk a0 a1) a2 a3) (Row.mk (Key.mk b0 b1) b2 b3))) w := eqOk_eql (by kernel_rfl) (by kernel_rfl)
theorem Row_neq (a0 : Int) (a1 : Int) (a2 : Int) (a3 : ByteArray) (b0 : Int) (b1 : Int) (b2 : Int) (b3 : ByteArray) (w : World) : EqOk Try.prog .neq 38 (.agg #[.int .i64 a0, .int .u16 a1, .int .i64 a2, .string a3]) (.agg #[.int .i64 b0, .int .u16 b1, .int .i64 b2, .string b3]) (.bool (!(Row.eqb (Row.mk (Key.mk a0 a1) a2 a3) (Row.mk (Key.mk b0 b1) b2 b3)))) w := eqOk_neq (by kernel_rfl) (by kernel_rfl)
theorem appT_25 : AppT Try.prog 25 38 4 40 := ⟨by kernel_rfl, ⟨Try.t38, (Try.t38.zero).getD undef, by kernel_rfl, by kernel_rfl, by kernel_rfl, by kernel_rfl, by kernel_rfl⟩, by decide, by decide⟩
end Go.Proofs.Ytlflbhhajnoelaa
