/- Chapter 35, the document's side: values. Conditions: none. -/
import Derived.Test.YtkebblmmgcgjkaaA9
namespace Go.Proofs.Ytkebblmmgcgjkaa
set_option maxRecDepth 8000
set_option linter.unusedVariables false
set_option linter.unusedSimpArgs false
set_option linter.unusedSectionVars false
open Go Go.Z Go.Z.Aig

def rv (L : List Bool) : List Bool := L.flatMap fun x => [x, !x]
theorem rv_len (L : List Bool) : (rv L).length = 2 * L.length := by
  unfold rv
  induction L with
  | nil => rfl
  | cons x L ih => simp only [List.flatMap_cons, List.length_append, ih, List.length_cons, List.length_nil]; omega
theorem rv_get : ∀ (L : List Bool) (a : Int), 0 ≤ a → a < 2 * L.length → (rv L)[a.toNat]? = some (litv L a)
  | [], a, h0, h1 => by simp at h1; omega
  | x :: L, a, h0, h1 => by
    have e : rv (x :: L) = x :: (!x) :: rv L := rfl
    rw [e]
    rcases Int.lt_or_le a 2 with h2 | h2
    · rcases Int.lt_or_le a 1 with h3 | h3
      · have : a = 0 := by omega
        subst this; simp [litv]
      · have : a = 1 := by omega
        subst this; simp [litv]
    · have ih := rv_get L (a - 2) (by omega) (by simp at h1; omega)
      have e1 : a.toNat = (a - 2).toNat + 2 := by omega
      rw [e1, List.getElem?_cons_succ, List.getElem?_cons_succ, ih]
      unfold litv
      have e2 : (a / 2).toNat = ((a - 2) / 2).toNat + 1 := by omega
      have e3 : (a - 2) % 2 = a % 2 := by omega
      rw [e2, e3]; rfl
theorem rv_snoc (L : List Bool) (x : Bool) : rv (L ++ [x]) = rv L ++ [x, !x] := by simp [rv]
theorem litv_take {V : List Bool} {k : Nat} {a : Int} (h0 : 0 ≤ a) (h : a < 2 * k) (hk : k ≤ V.length) : litv (V.take k) a = litv V a := by
  conv => rhs; rw [← List.take_append_drop k V]
  exact (litv_pre (by rw [List.length_take]; omega)).symm
theorem rank_succ {S : St} {k : Nat} (hk : k < S.length) : rank S (k + 1) = rank S k + if S[k].2.2 then 1 else 0 := by
  unfold rank; rw [ins_snoc hk, List.length_append]; split <;> rfl
theorem rank_lt {S : St} {k : Nat} {a b : Int} (h : S[k]? = some (a, b, true)) : rank S k < (ins 0 S).length :=
  (List.getElem?_eq_some_iff.1 (ins_at S 0 k a b h)).1
theorem flat2 {cs xs : List Value} {o i : Nat} {v : Value} (h : ∀ j v, xs[j]? = some v → cs[o + j]? = some v) (hv : xs[i]? = some v) {j : Nat} (hj : j = o + i * 1) : cs[j]? = some v := by
  subst hj; rw [Nat.mul_one]; exact h i v hv

end Go.Proofs.Ytkebblmmgcgjkaa
