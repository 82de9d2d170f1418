import Derived.Test.YtchocpffjnodfaaGreatDeep
import Derived.Scope
namespace Go.Bur
open Go.RowKit
set_option linter.unusedVariables false
section
variable {P : Program} {Q : Exit → Act → World → Prop} {a : Act} {w : World} {c : Code}
end
end Go.Bur
