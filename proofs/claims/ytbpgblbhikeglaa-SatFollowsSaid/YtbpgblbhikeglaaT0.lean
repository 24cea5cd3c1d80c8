/- Chapter 37: literals taken back, plain. Conditions: none. -/
import Derived.Test.YtbpgblbhikeglaaS9
namespace Go.Z.Sat
set_option linter.unusedVariables false
set_option linter.unusedSimpArgs false
set_option linter.unusedSectionVars false
open Go Go.Z

def unput (a : As) (l : Int) : As := fun v => if v = l.natAbs then none else a v
theorem put_unput {a : As} {l : Int} (h : lv a l = some true) : put (unput a l) l = a := by
  funext v
  unfold put unput
  by_cases e : v = l.natAbs
  · rw [if_pos e, e]
    rw [lv_abs] at h
    split at h
    · rename_i h0; rw [h, decide_eq_true h0]
    · rename_i h0
      cases hv : a l.natAbs with
      | none => rw [hv] at h; cases h
      | some x => rw [hv] at h; cases x <;> simp at h; rw [decide_eq_false h0]
  · rw [if_neg e, if_neg e]
theorem lv_unput (a : As) (l : Int) : lv (unput a l) l = none := by
  rw [lv_abs]; unfold unput; split <;> simp
theorem unput_put {a : As} {l : Int} (h : lv a l = none) : unput (put a l) l = a := by
  funext v
  unfold unput
  by_cases e : v = l.natAbs
  · rw [if_pos e, e]
    rw [lv_abs] at h
    split at h
    · exact h.symm
    · cases hv : a l.natAbs with
      | none => rfl
      | some x => rw [hv] at h; cases h
  · rw [if_neg e]
    unfold put
    rw [if_neg e]
theorem vcells_unput {n : Nat} {V : As} {l : Int} (hl : okL n l) : (vcells n V).set l.natAbs (.int .i64 0) = vcells n (unput V l) := by
  refine List.ext_getElem? fun i => ?_
  rw [List.getElem?_set]
  by_cases h : l.natAbs = i
  · have hi : i ≤ n := by have := hl.2; omega
    rw [if_pos h, vcells_len, if_pos (by omega), vcells_at _ hi]
    unfold unput
    rw [if_pos h.symm]; rfl
  · rw [if_neg h]
    by_cases hi : i ≤ n
    · rw [vcells_at _ hi, vcells_at _ hi]
      unfold unput
      rw [if_neg (fun e => h e.symm)]
    · rw [List.getElem?_eq_none (by rw [vcells_len]; omega), List.getElem?_eq_none (by rw [vcells_len]; omega)]

theorem bump1_comm (X : List Nat) (i j : Nat) : bump1 (bump1 X i) j = bump1 (bump1 X j) i := by
  refine List.ext_getElem (by simp [bump1_len]) fun k h1 h2 => ?_
  have e1 : ∀ (X : List Nat) (h : k < X.length), X[k] = X.getD k 0 := fun X h => by rw [List.getD_eq_getElem?_getD, List.getElem?_eq_getElem h]; rfl
  rw [e1 _ h1, e1 _ h2, bump1_get, bump1_get, bump1_get, bump1_get, bump1_len, bump1_len]
  omega
theorem bump_bump1 : ∀ (us X : List Nat) (i : Nat), bump (bump1 X i) us = bump1 (bump X us) i
  | [], X, i => rfl
  | j :: us, X, i => by
    show bump (bump1 (bump1 X i) j) us = bump1 (bump (bump1 X j) us) i
    rw [bump1_comm, bump_bump1 us]
theorem bump_cons (X : List Nat) (i : Nat) (us : List Nat) : bump X (i :: us) = bump1 (bump X us) i := bump_bump1 us X i

/-- the values after the literals of R, each new, were taken back in their order -/
def unputs (a : As) (R : List Int) : As := R.foldl unput a
theorem asg_append (T R : List Int) : asg (T ++ R) = R.foldl put (asg T) := by simp [asg]
theorem unputs_get : ∀ (R : List Int) (a : As) (v : Nat), unputs a R v = if v ∈ R.map Int.natAbs then none else a v
  | [], a, v => by simp [unputs]
  | l :: R, a, v => by
    show unputs (unput a l) R v = _
    rw [unputs_get R (unput a l) v]
    unfold unput
    by_cases h1 : v ∈ R.map Int.natAbs
    · rw [if_pos h1, if_pos (by simp only [List.map_cons, List.mem_cons]; exact .inr h1)]
    · rw [if_neg h1]
      by_cases h2 : v = l.natAbs
      · rw [if_pos h2, if_pos (by simp [h2])]
      · rw [if_neg h2, if_neg (by simp only [List.map_cons, List.mem_cons]; rintro (h | h); exact h2 h; exact h1 h)]
theorem puts_get : ∀ (R : List Int) (a : As) (v : Nat), v ∉ R.map Int.natAbs → R.foldl put a v = a v
  | [], a, v, _ => rfl
  | l :: R, a, v, h => by
    simp only [List.map_cons, List.mem_cons, not_or] at h
    show R.foldl put (put a l) v = a v
    rw [puts_get R (put a l) v h.2]
    unfold put
    rw [if_neg h.1]
theorem puts_some : ∀ (R : List Int) (a : As) (v : Nat), R.foldl put a v = none → a v = none
  | [], a, v, h => h
  | l :: R, a, v, h => by
    have := puts_some R (put a l) v h
    unfold put at this
    split at this
    · cases this
    · exact this
theorem unputs_puts {A : As} {R : List Int} (h : ∀ i (hi : i < R.length), lv ((R.take i).foldl put A) R[i] = none) : unputs (R.foldl put A) R = A := by
  funext v
  rw [unputs_get]
  by_cases e : v ∈ R.map Int.natAbs
  · rw [if_pos e]
    obtain ⟨l, hl, rfl⟩ := List.mem_map.1 e
    obtain ⟨i, hi, rfl⟩ := List.getElem_of_mem hl
    have := h i hi
    have h2 : ((R.take i).foldl put A) R[i].natAbs = none := by
      rw [lv_abs] at this
      split at this
      · exact this
      · cases hv : ((R.take i).foldl put A) R[i].natAbs with
        | none => rfl
        | some x => rw [hv] at this; cases this
    exact (puts_some _ _ _ h2).symm
  · rw [if_neg e, puts_get R A v e]
theorem Inv.cut {n : Nat} {F : Fm} {a V : As} {T : List Int} (h : Inv n F a V T) {k : Nat} (hk : k ≤ T.length) : unputs V (T.drop k) = asg (T.take k) := by
  have e : V = (T.drop k).foldl put (asg (T.take k)) := by rw [h.val, ← asg_append, List.take_append_drop]
  rw [e]
  refine unputs_puts fun i hi => ?_
  rw [List.length_drop] at hi
  have := h.new (k + i) (by omega)
  rw [List.getElem_drop, ← asg_append, ← List.take_add]
  exact this
theorem foldl_put_some : ∀ (R : List Int) (a : As) (v : Nat), v ∈ R.map Int.natAbs → R.foldl put a v ≠ none
  | [], a, v, h => absurd h (by simp)
  | l :: R, a, v, h => by
    intro e
    have h1 := puts_some R (put a l) v e
    by_cases e1 : v ∈ R.map Int.natAbs
    · exact foldl_put_some R (put a l) v e1 e
    · simp only [List.map_cons, List.mem_cons] at h
      have : v = l.natAbs := by rcases h with h | h; exact h; exact absurd h e1
      unfold put at h1
      rw [if_pos this] at h1; cases h1
theorem Inv.at {n : Nat} {F : Fm} {a V : As} {T : List Int} (h : Inv n F a V T) {k j : Nat} (hj : k + j < T.length) : lv (unputs V ((T.drop k).take j)) T[k + j] = some true := by
  have hn := h.new (k + j) hj
  have hl := h.lits _ (List.getElem_mem hj)
  have hnv : asg (T.take (k + j)) T[k + j].natAbs = none := by
    rw [lv_abs] at hn
    split at hn
    · exact hn
    · cases hv : asg (T.take (k + j)) T[k + j].natAbs with
      | none => rfl
      | some x => rw [hv] at hn; cases hn
  have hnot : T[k + j].natAbs ∉ ((T.drop k).take j).map Int.natAbs := fun hm => by
    refine foldl_put_some ((T.drop k).take j) (asg (T.take k)) _ hm ?_
    rw [← asg_append, ← List.take_add]; exact hnv
  have hV : lv V T[k + j] = some true := by
    have e : V = (T.drop (k + j + 1)).foldl put (put (asg (T.take (k + j))) T[k + j]) := by
      have e1 : T = T.take (k + j) ++ T[k + j] :: T.drop (k + j + 1) := by rw [← List.drop_eq_getElem_cons hj, List.take_append_drop]
      have e2 := asg_append (T.take (k + j)) (T[k + j] :: T.drop (k + j + 1))
      rw [← e1, ← h.val] at e2
      exact e2
    have hle : ∀ (R : List Int) (b : As), (∀ i (hi : i < R.length), lv ((R.take i).foldl put b) R[i] = none) → le b (R.foldl put b) := by
      intro R
      induction R with
      | nil => intro b _; exact le.refl b
      | cons l R ih =>
        intro b hb
        refine (le_put (hb 0 (by simp))).trans (ih (put b l) fun i hi => ?_)
        exact hb (i + 1) (by simpa using hi)
    have := hle (T.drop (k + j + 1)) (put (asg (T.take (k + j))) T[k + j]) fun i hi => by
      rw [List.length_drop] at hi
      have h2 := h.new (k + j + 1 + i) (by omega)
      have e3 : ((T.drop (k + j + 1)).take i).foldl put (put (asg (T.take (k + j))) T[k + j]) = asg (T.take (k + j + 1 + i)) := by
        rw [show T.take (k + j + 1 + i) = T.take (k + j + 1) ++ (T.drop (k + j + 1)).take i from List.take_add, asg_append, show T.take (k + j + 1) = T.take (k + j) ++ [T[k + j]] by rw [List.take_add_one, List.getElem?_eq_getElem hj, Option.toList_some], asg_append]; rfl
      rw [e3, List.getElem_drop]; exact h2
    rw [e]
    exact this.lv (lv_put hl.1)
  rw [lv_abs] at hV ⊢
  rw [unputs_get, if_neg hnot]
  exact hV
theorem Inv.next {V : As} {T : List Int} {k j : Nat} (hj : k + j < T.length) : unputs V ((T.drop k).take (j + 1)) = unput (unputs V ((T.drop k).take j)) T[k + j] := by
  rw [List.take_add_one, List.getElem?_drop, List.getElem?_eq_getElem hj, Option.toList_some]
  simp [unputs]
end Go.Z.Sat
