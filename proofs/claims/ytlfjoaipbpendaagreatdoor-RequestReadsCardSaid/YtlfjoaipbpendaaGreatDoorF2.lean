/- Functions of the program: plain twins and their contracts, printed by program. -/
import Derived.Test.YtlfjoaipbpendaaGreatDoorTypes
import Derived.Test.YtlfjoaipbpendaaGreatDoorF1
namespace Go.Proofs.YtlfjoaipbpendaaGreatDoor
open Go Go.Bur Go.RowKit
set_option linter.unusedVariables false
set_option linter.unusedSimpArgs false
set_option maxRecDepth 100000
noncomputable section
/-! bursary row.Find 1 -/
/-! slices.IndexFunc   bursary api.Row bursary api.Row  -/
/-! bursary row.Find -/
/-!   bursary ideal.turn .found -/
/-!   bursary ideal.turn .read -/
/-! bursary row.Of -/
/-!   bursary ideal.turn .scan -/
/-!   bursary ideal.turn .fits -/
/-! bursary row.place 1 -/
/-! slices.BinarySearchFunc   bursary api.Row bursary api.Row bursary api.Key  -/
/-! bursary row.place -/
/-! bursary row.Put -/
/-!   bursary ideal.turn .insert -/
end
end Go.Proofs.YtlfjoaipbpendaaGreatDoor
