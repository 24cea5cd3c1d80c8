/- Chapter 35: what the arguments of its laws read as. Conditions: none. -/
import Derived.Test.YtkebblmmgcgjkaaB3
namespace Go.Proofs.Ytkebblmmgcgjkaa
set_option maxRecDepth 8000
set_option linter.unusedVariables false
set_option linter.unusedSimpArgs false
set_option linter.unusedSectionVars false
open Go Go.Z Go.Z.Aig

variable {H : Type} {enc : TypeId × Value → H} {W : World} {cs : List Value}

theorem four {c : List Value} (h : c.length = 4) : ∃ a b d e, c = [a, b, d, e] := by
  match c, h with
  | [a, b, d, e], _ => exact ⟨a, b, d, e, rfl⟩

end Go.Proofs.Ytkebblmmgcgjkaa
