/- The plain types, printed by program. -/
import Derived.Test.YtkfemopgfjooeaaProg
import Derived.Test.YtkfemopgfjooeaaHn
import Derived.KernelRfl
import Derived.Test.YtkfemopgfjooeaaSg
import Derived.Test.YtkfemopgfjooeaaShelf
namespace Go.Proofs.Ytkfemopgfjooeaa
open Go Go.Bur Go.RowKit
set_option linter.unusedVariables false
set_option linter.unusedSimpArgs false
set_option maxRecDepth 100000
noncomputable section
structure Edge where
  from_ : Int
  to : Int
structure Arr2_int where
  a0 : List Int
  a1 : List Int
@[reducible] def tabT : Nat → Type
  | 0 => Edge
  | 1 => Arr2_int
  | _ => Unit
@[reducible] def tabL : Nat → List Ty
  | 0 => [.int .i64, .int .i64]
  | 1 => [.sl (.int .i64), .sl (.int .i64)]
  | _ => []
@[reducible] def tabGet : (i : Nat) → tabT i → HL tabT (tabL i)
  | 0, x => (x.from_, x.to, ())
  | 1, x => (x.a0, x.a1, ())
  | _ + 2, _ => ()
@[reducible] def tabMk : (i : Nat) → HL tabT (tabL i) → tabT i
  | 0, h => (Edge.mk h.1 h.2.1)
  | 1, h => (Arr2_int.mk h.1 h.2.1)
  | _ + 2, _ => ()
@[reducible] def tab : Tab := mkTab tabT tabL tabGet tabMk 1
theorem tabOk : TabOk tab where
  mk_get i x := by
    match i, x with
    | 0, _ => rfl
    | 1, _ => rfl
    | _ + 2, _ => rfl
  get_mk i h := by
    match i, h with
    | 0, _ => rfl
    | 1, _ => rfl
    | _ + 2, _ => rfl
  leaf i := by
    match i with
    | 0 => exact fun t h => List.all_eq_true.1 (by kernel_rfl : (tabL 0).all Ty.leaf = true) t h
    | 1 => exact fun t h => List.all_eq_true.1 (by kernel_rfl : (tabL 1).all Ty.leaf = true) t h
    | _ + 2 => exact fun t h => (by cases h)
  sz i := by
    match i with
    | 0 => rfl
    | 1 => rfl
    | _ + 2 => rfl
  rep i w vs x := by
    match i, x with
    | 0, _ => exact Iff.rfl
    | 1, _ => exact Iff.rfl
    | _ + 2, _ => exact Iff.rfl
def addO : Option Nat := none
theorem addOk : AddOk Try.prog addO := addOk_none _
@[reducible] def dpO : List (TypeId × List (Option TypeId)) := []
@[reducible] def tyOf : TypeId → Option Ty
  | 2 => some (.int .i64)
  | 3 => some (.int .i64)
  | 4 => some (.bool)
  | 5 => some (.int .u8)
  | 6 => some (.int .u8)
  | 9 => some (.str)
  | 10 => some (.str)
  | 11 => some (.str)
  | 12 => some (.int .u64)
  | 21 => some (.int .i32)
  | 22 => some (.sl (.st 0))
  | 24 => some (.sl (.int .i64))
  | 25 => some (.int .i64)
  | 34 => some (.sl (.sl (.int .i64)))
  | 45 => some (.st 0)
  | 57 => some (.st 1)
  | 83 => some (.int .u64)
  | 86 => some (.sl (.sl (.st 0)))
  | 90 => some (.int .i64)
  | 98 => some (.int .u32)
  | 100 => some (.int .u64)
  | 107 => some (.int .u64)
  | 135 => some (.int .u8)
  | 136 => some (.int .u8)
  | 139 => some (.int .i32)
  | 140 => some (.int .i32)
  | _ => none
end
end Go.Proofs.Ytkfemopgfjooeaa
