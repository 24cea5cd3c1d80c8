/- Chapter 5: operators applied by the document; operators on cells. Conditions: none. -/
import Derived.Test.YtlcipnligbjclabC2
namespace Go.Z.Val
set_option linter.unusedVariables false
set_option linter.unusedSimpArgs false
set_option linter.unusedSectionVars false
open Go Go.Z
theorem cell_at {cs : List Value} {o : Nat} {l : List Ce} (h : ∀ j v, (l.flatMap encC)[j]? = some v → cs[o + j]? = some v) {k : Nat} (hk : k < l.length) : sub cs (o + k * 2) 2 = some (encC l[k]) ∧ cs[o + k * 2 + 0]? = some (.int .i64 l[k].1) ∧ cs[o + k * 2 + 1]? = some (.int .i64 l[k].2) := by
  have hr := rows_at encC 2 encC_len l k hk
  have h1 := sub_of (o := o) (i := k * 2) (k := 2) h (by omega) hr.2
  rw [hr.1] at h1
  have h2 := (sub_spec h1).2
  exact ⟨h1, h2 0 _ rfl, h2 1 _ rfl⟩
theorem any_take {l : List Ce} {j : Nat} (h : j < l.length) (p : Ce → Bool) : (l.take (j + 1)).any p = ((l.take j).any p || p l[j]) := by
  rw [List.take_add_one, List.getElem?_eq_getElem h, Option.toList_some, List.any_append]; simp
theorem map_take {α β : Type} {l : List α} {j : Nat} (h : j < l.length) (f : α → β) : (l.take (j + 1)).map f = (l.take j).map f ++ [f l[j]] := by
  rw [List.take_add_one, List.getElem?_eq_getElem h, Option.toList_some, List.map_append]; rfl
end Go.Z.Val
namespace Go.Proofs.Ytlcipnligbjclab
open Go Go.Z Go.Z.Val

end Go.Proofs.Ytlcipnligbjclab
