/- Functions of the program: plain twins and their contracts, printed by program. -/
import Derived.Test.YtlfjoaipbpendaaGreatDoorTypes
import Derived.Test.YtlfjoaipbpendaaGreatDoorF2
namespace Go.Proofs.YtlfjoaipbpendaaGreatDoor
open Go Go.Bur Go.RowKit
set_option linter.unusedVariables false
set_option linter.unusedSimpArgs false
set_option maxRecDepth 100000
noncomputable section
/-!   bursary ideal.turn .remove 1 -/
/-!   bursary ideal.turn .found -/
/-!   bursary ideal.turn .remove -/
/-!   bursary ideal.turn .note 1 -/
/-!   bursary ideal.turn .found -/
/-!   bursary ideal.turn .note -/
/-!   bursary ideal.turn .set 1 -/
/-!   bursary ideal.turn .found -/
/-!   bursary ideal.turn .set -/
/-! bursary row.Plus -/
/-!   bursary ideal.turn .sum -/
/-!   bursary ideal.turn .add 1 -/
/-!   bursary ideal.turn .found -/
/-!   bursary ideal.turn .add -/
/-!   bursary ideal.turn .move 1 1 -/
/-!   bursary ideal.turn .found -/
/-!   bursary ideal.turn .move 1 -/
/-!   bursary ideal.turn .found -/
/-!   bursary ideal.turn .move -/
/-! bursary ideal.does -/
/-! bursary ideal.Do -/
/-! bursary bursarylaw19.covered -/
/-! slices.Equal   bursary api.Row bursary api.Row  -/
/-! bursary row.Same -/
/-! bursary ideal.SameAnswer -/
/-! bursary bursarylaw19.overList -/
/-! bursary bursarylaw19.RequestOwn -/
/-! bursary bursarylaw19.resources -/
/-! bursary bursarylaw19.RequestTogether -/
end
end Go.Proofs.YtlfjoaipbpendaaGreatDoor
