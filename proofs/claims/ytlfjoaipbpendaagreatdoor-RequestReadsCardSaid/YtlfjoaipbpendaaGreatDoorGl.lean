/- What is known of the program's variables all along: the powers of ten, and what the errors and the search's bound are. -/
import Derived.Test.YtlfjoaipbpendaaGreatDoorCore
import Derived.Lib.ItoaNum
namespace Go.Bur
def gRow (g : Nat) (vs : Array Value) (w : World) : Prop := (match w.heap[g]? with | some (.cells cs _ _) => some cs | _ => none) = some vs
def gTab : World → Prop := gRow 0 (Lib.pow10Tab.map fun z => Value.int .u64 z).toArray
def gMax (w : World) : Prop := ∃ m, w.cell? ⟨1, 0, none⟩ = some (.int .i64 m)
def gErr (g : Nat) (w : World) : Prop := ∃ t p, w.cell? ⟨g, 0, none⟩ = some (.iface t p)
def glob : List (World → Prop) := [gTab, gMax, gErr 2, gErr 3]
end Go.Bur
