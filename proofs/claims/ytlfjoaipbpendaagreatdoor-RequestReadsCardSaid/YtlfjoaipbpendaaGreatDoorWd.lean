/- What a walk keeps count of: nothing (contracts of the shelf that tell nothing of draws may be used then). -/
import Derived.WalkKit
namespace Go.Bur
abbrev dn (_ : World) : Nat := 0
theorem dn_le {w w' : World} (_ : w.drawn ≤ w'.drawn) : dn w ≤ dn w' := Nat.le_refl _
end Go.Bur
