/- Chapter 35, the document's side: variables in three lists. Conditions: none. -/
import Derived.Test.YtkebblmmgcgjkaaA6
namespace Go.Proofs.Ytkebblmmgcgjkaa
set_option maxRecDepth 8000
set_option linter.unusedVariables false
set_option linter.unusedSimpArgs false
set_option linter.unusedSectionVars false
open Go Go.Z Go.Z.Aig

theorem own_at {cur xs : List Value} {N k i : Nat} {v : Value} (h : cur.take (N * 1) = xs) (hi : i = 0 + k * 1) (hv : xs[k]? = some v) : cur[i]? = some v := by
  subst hi
  rw [← h, List.getElem?_take] at hv
  split at hv
  · simpa using hv
  · cases hv

theorem g_cap {M : Mx} {n : Nat} {L : Fr} {H H' : List Assn} {T : Act → World → Prop} {e : TypeId} {size : Nat} {a1 : Option Addr} {k cap : Nat} {xs : List Value} (tk : Take H (OwnSl e size a1 k cap xs) H') (h : k ≤ cap → cap ≤ 9223372036854775807 → G M n L H T) : G M n L H T := by
  intro a w ha hm
  obtain ⟨e1, e2⟩ := OwnSl.cases tk hm
  rcases e2 with ⟨r1, r2, r3, hm'⟩ | ⟨g, cur, r1, r2, r3, r4, r5, hm'⟩
  · exact h (by omega) (by omega) a w ha hm
  · exact h r2 r3 a w ha hm

theorem hasB_nt (S : St) (a : Int) : hasB S (nt a) = hasB S a := by
  have h : hasB S (nt a) = true ↔ hasB S a = true := by
    rw [hasB_iff, hasB_iff]
    refine ⟨fun h => ?_, nt_has⟩
    have e : nt (nt a) = a := by unfold nt; split <;> split <;> omega
    rw [← e]; exact nt_has h
  cases h1 : hasB S (nt a) <;> cases h2 : hasB S a <;> simp_all

theorem i64_nt {a : Int} (h : I64 a) : I64 (Aig.nt a) := by unfold I64 Aig.nt at *; split <;> omega

theorem min_nt {a b : Int} (h : a = nt b) : min a b = nt (max a b) := by unfold nt at *; split at h <;> split <;> omega
theorem min_nt' {a b : Int} (h : ¬ a = nt b) : ¬ min a b = nt (max a b) := by
  intro e; apply h; unfold nt at *; split at e <;> split <;> omega

theorem find_step {S : St} {k : Nat} (hk : k < S.length) {x y : Int} : find (S.drop k) k x y = if S[k] = (x, y, false) then some k else find (S.drop (k + 1)) (k + 1) x y := by
  rw [List.drop_eq_getElem_cons hk]; rfl

end Go.Proofs.Ytkebblmmgcgjkaa
