/- Chapter 35: the law of values. Conditions: none. -/
import Derived.Test.YtkebblmmgcgjkaaB2
namespace Go.Proofs.Ytkebblmmgcgjkaa
set_option maxRecDepth 8000
set_option linter.unusedVariables false
set_option linter.unusedSimpArgs false
set_option linter.unusedSectionVars false
open Go Go.Z Go.Z.Aig

end Go.Proofs.Ytkebblmmgcgjkaa
