/- Contracts written by hand (slices.Delete, Insert, Grow): from cells as they stand to rows of whatever type. -/
import Derived.Test.YtlfjoaipbpendaaGreatDoorTa
namespace Go.Bur
open Go.RowKit
set_option linter.unusedVariables false
set_option linter.unusedSimpArgs false

section
variable {α : Type} {G : GoT α} {w : World} {m : Nat}
end

/-! ### What is kept of a row (slices.DeleteFunc) -/
section
variable (S : Tab)
end
section
variable {P : Program} {S : Tab} {ρ : Rho} {Ps : List (World → Prop)} {R : List Nat} {w : World} {m : Nat}
/-! ### Rows with rows of their own -/
/-! ### slices.DeleteFunc -/
end
end Go.Bur
