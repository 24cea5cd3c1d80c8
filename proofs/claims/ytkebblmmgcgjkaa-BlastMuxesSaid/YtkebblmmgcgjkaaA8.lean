/- Chapter 35, the document's side: selections. Conditions: none. -/
import Derived.Test.YtkebblmmgcgjkaaA7
namespace Go.Proofs.Ytkebblmmgcgjkaa
set_option maxRecDepth 8000
set_option linter.unusedVariables false
set_option linter.unusedSimpArgs false
set_option linter.unusedSectionVars false
open Go Go.Z Go.Z.Aig

def orX (S : St) (a b : Int) : Int × Int × St := let r := and0 S (nt a) (nt b); if r.2.1 = 0 then (nt r.1, 0, r.2.2) else (0, r.2.1, r.2.2)
def two1 (S : St) (a b c d : Int) : Int × Int × St := if hasB S a && (hasB S b && (hasB S c && hasB S d)) then two S a b c d else (0, 14, S)

end Go.Proofs.Ytkebblmmgcgjkaa
