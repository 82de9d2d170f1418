import Derived.Test.YtndehfninoimgaaGreatTypes
import Derived.Test.YtndehfninoimgaaGreatF4
namespace Go.Proofs.YtndehfninoimgaaGreat
open Go Go.Bur Go.RowKit
set_option linter.unusedVariables false
set_option linter.unusedSimpArgs false
set_option maxRecDepth 100000
noncomputable section
end
end Go.Proofs.YtndehfninoimgaaGreat
