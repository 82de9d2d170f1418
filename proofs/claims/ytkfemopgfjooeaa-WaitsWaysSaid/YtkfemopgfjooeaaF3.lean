/- Functions of the program: plain twins and their contracts, printed by program. -/
import Derived.Test.YtkfemopgfjooeaaTypes
import Derived.Test.YtkfemopgfjooeaaF2
namespace Go.Proofs.Ytkfemopgfjooeaa
open Go Go.Bur Go.RowKit
set_option linter.unusedVariables false
set_option linter.unusedSimpArgs false
set_option maxRecDepth 100000
noncomputable section
/-! slices.pdqsortOrdered int  -/
end
end Go.Proofs.Ytkfemopgfjooeaa
