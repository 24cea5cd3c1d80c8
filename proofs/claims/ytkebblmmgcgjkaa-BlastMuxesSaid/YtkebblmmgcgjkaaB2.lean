/- Chapter 35: any calls of both graphs. Conditions: none. -/
import Derived.Test.YtkebblmmgcgjkaaB1
namespace Go.Proofs.Ytkebblmmgcgjkaa
set_option maxRecDepth 8000
set_option linter.unusedVariables false
set_option linter.unusedSimpArgs false
set_option linter.unusedSectionVars false
open Go Go.Z Go.Z.Aig

theorem encC_len (x : Call) : (encC x).length = 4 := rfl
def after (l : List Call) : St := l.foldl callS L0
theorem after_snoc (l : List Call) (k : Nat) (hk : k < l.length) : after (l.take (k + 1)) = callS (after (l.take k)) l[k] := by
  unfold after; rw [List.take_add_one, List.getElem?_eq_getElem hk, Option.toList_some, List.foldl_append]; rfl

end Go.Proofs.Ytkebblmmgcgjkaa
