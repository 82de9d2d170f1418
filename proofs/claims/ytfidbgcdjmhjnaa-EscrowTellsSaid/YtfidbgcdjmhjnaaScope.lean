/- Scopes and labels that nobody jumps to. -/
import Derived.Test.YtfidbgcdjmhjnaaDeep
import Derived.Scope
namespace Go.Bur
open Go.RowKit
set_option linter.unusedVariables false
def isScope : Code → Bool | .scope _ => true | _ => false
def isLabel : Code → Bool | .label _ => true | _ => false
def scopeB : Code → Code | .scope c => c | c => c
section
variable {P : Program} {Q : Exit → Act → World → Prop} {a : Act} {w : World} {c : Code}
theorem k_scope (hc : isScope c = true) (h : (scopeB c).wp P (Exit.noGoto Q) a w) : c.wp P Q a w := by
  cases c <;> first | (exact wp_scope_straight h) | cases hc
theorem k_label (hc : isLabel c = true) (h : Q .normal a w) : c.wp P Q a w := by
  cases c <;> first | (exact wp_label h) | cases hc
end
end Go.Bur
