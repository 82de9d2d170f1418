/- The plain types, printed by program. -/
import Derived.Test.YtghinjlfaicpjaaProg
import Derived.Test.YtghinjlfaicpjaaCore
import Derived.KernelRfl
namespace Go.Proofs.Ytghinjlfaicpjaa
open Go.Bur Go.RowKit
set_option linter.unusedVariables false
set_option linter.unusedSimpArgs false
set_option maxRecDepth 100000



end Go.Proofs.Ytghinjlfaicpjaa
