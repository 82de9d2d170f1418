/- Functions of the program: plain twins and their contracts, printed by program. -/
import Derived.Test.YtkfemopgfjooeaaTypes
import Derived.Test.YtkfemopgfjooeaaF1
namespace Go.Proofs.Ytkfemopgfjooeaa
open Go Go.Bur Go.RowKit
set_option linter.unusedVariables false
set_option linter.unusedSimpArgs false
set_option maxRecDepth 100000
noncomputable section
/-! slices.Concat   bursary api.Edge bursary api.Edge  -/
/-! slices.Compact   bursary api.Edge bursary api.Edge  -/
/-! bursary waits.Add -/
/-! bursary bursaryref09.Add -/
/-! bursary bursarylaw09.WaitsChanges -/
/-! bursary bursarylaw09.WaitsThrough -/
/-! math bits.Len32 -/
/-! math bits.Len64 -/
/-! math bits.Len -/
/-! cmp.Less int  -/
/-! slices.insertionSortOrdered int  -/
/-! slices.siftDownOrdered int  -/
/-! slices.heapSortOrdered int  -/
/-! slices.nextPowerOfTwo -/
/-!   slices.xorshift .Next -/
/-! slices.breakPatternsOrdered int  -/
/-! slices.order2Ordered int  -/
/-! slices.medianOrdered int  -/
/-! slices.medianAdjacentOrdered int  -/
/-! slices.choosePivotOrdered int  -/
/-! slices.reverseRangeOrdered int  -/
/-! slices.partialInsertionSortOrdered int  -/
/-! slices.partitionEqualOrdered int  -/
/-! slices.partitionOrdered int  -/
end
end Go.Proofs.Ytkfemopgfjooeaa
