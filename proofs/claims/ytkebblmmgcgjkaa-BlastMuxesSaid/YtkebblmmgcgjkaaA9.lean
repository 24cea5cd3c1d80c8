/- Chapter 35, the document's side: inputs, gates. Conditions: none. -/
import Derived.Test.YtkebblmmgcgjkaaA8
namespace Go.Proofs.Ytkebblmmgcgjkaa
set_option maxRecDepth 8000
set_option linter.unusedVariables false
set_option linter.unusedSimpArgs false
set_option linter.unusedSectionVars false
open Go Go.Z Go.Z.Aig

theorem ins_snoc {S : St} {k : Nat} (hk : k < S.length) : ins 0 (S.take (k + 1)) = ins 0 (S.take k) ++ (if S[k].2.2 then [2 * (k : Int)] else []) := by
  rw [List.take_add_one, List.getElem?_eq_getElem hk, Option.toList_some, ins_append]
  congr 1
  have : (S.take k).length = k := by rw [List.length_take]; omega
  simp only [ins, this, Nat.zero_add]

theorem ins_one {S : St} (h : WF S) : ins 0 (S.take 1) = [] := by
  have := h.hd
  cases S with
  | nil => rfl
  | cons g l => simp at this; subst this; rfl

end Go.Proofs.Ytkebblmmgcgjkaa
