/- Functions of the program: plain twins and their contracts, printed by program. -/
import Derived.Test.YtndehfninoimgaaGreatTypes
import Derived.Test.YtndehfninoimgaaGreatF4
namespace Go.Proofs.YtndehfninoimgaaGreat
open Go Go.Bur Go.RowKit
set_option linter.unusedVariables false
set_option linter.unusedSimpArgs false
set_option maxRecDepth 100000
noncomputable section
/-! bursary locks.own 1 -/
/-! bursary locks.Holds -/
/-! bursary bursaryref08.Holds -/
/-! bursary bursaryref08.Blockers -/
/-! bursary bursaryref08.Mode -/
/-! bursary bursaryref08.SameInts -/
/-! slices.Equal   bursary api.Wait bursary api.Wait  -/
/-! slices.Equal   bursary api.Hold bursary api.Hold  -/
/-! bursary locks.Same 1 -/
/-! slices.EqualFunc   bursary api.Queue   bursary api.Queue bursary api.Queue bursary api.Queue  -/
/-! bursary locks.Same -/
/-! bursary bursaryref08.Same -/
/-! bursary bursarylaw08.LocksTells -/
end
end Go.Proofs.YtndehfninoimgaaGreat
