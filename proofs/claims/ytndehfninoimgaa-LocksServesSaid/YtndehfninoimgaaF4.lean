/- Functions of the program: plain twins and their contracts, printed by program. -/
import Derived.Test.YtndehfninoimgaaTypes
import Derived.Test.YtndehfninoimgaaF3
namespace Go.Proofs.Ytndehfninoimgaa
open Go Go.Bur Go.RowKit
set_option linter.unusedVariables false
set_option linter.unusedSimpArgs false
set_option maxRecDepth 100000
noncomputable section
/-! slices.medianOrdered int  -/
/-! slices.medianAdjacentOrdered int  -/
/-! slices.choosePivotOrdered int  -/
/-! slices.reverseRangeOrdered int  -/
/-! slices.partialInsertionSortOrdered int  -/
/-! slices.partitionEqualOrdered int  -/
/-! slices.partitionOrdered int  -/
/-! slices.Reverse   bursary api.Hold bursary api.Hold  -/
/-! slices.Reverse   bursary api.Wait bursary api.Wait  -/
/-!   slices.xorshift .Next -/
end
end Go.Proofs.Ytndehfninoimgaa
