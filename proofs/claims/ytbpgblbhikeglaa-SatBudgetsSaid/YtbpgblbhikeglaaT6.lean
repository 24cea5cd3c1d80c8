/- Chapter 37: the rows of uses, as they grow. Conditions: none. -/
import Derived.Test.YtbpgblbhikeglaaT5
namespace Go.Z.Sat
set_option linter.unusedVariables false
set_option linter.unusedSimpArgs false
set_option linter.unusedSectionVars false
open Go Go.Z Go.Proofs.Ytbpgblbhikeglaa

theorem useRow_append (A : Fm) (c : Cl) (k : Int) : useRow (A ++ [c]) k = useRow A k ++ (c.filter fun x => decide (uix x = k)).map fun _ => A.length := by
  unfold useRow
  rw [List.zipIdx_append, List.flatMap_append]
  simp
theorem useRow_lit (A : Fm) (c : Cl) (l : Int) (k : Int) : useRow (A ++ [c ++ [l]]) k = useRow (A ++ [c]) k ++ if uix l = k then [A.length] else [] := by
  rw [useRow_append, useRow_append, List.filter_append, List.map_append, List.append_assoc]
  congr 2
  by_cases h : uix l = k <;> simp [h]
theorem useRow_pre (F : Fm) {i : Nat} (hi : i < F.length) (j : Nat) (k : Int) : (useRow (F.take i ++ [F[i].take j]) k).length ≤ (useRow F k).length := by
  have e : F = (F.take i ++ [F[i]]) ++ F.drop (i + 1) := by
    rw [List.append_assoc, List.singleton_append, ← List.drop_eq_getElem_cons hi, List.take_append_drop]
  have h1 : (useRow (F.take i ++ [F[i]]) k).length ≤ (useRow F k).length := by
    conv => rhs; rw [e]
    unfold useRow
    rw [List.zipIdx_append (xs := F.take i ++ [F[i]]), List.flatMap_append, List.length_append]
    omega
  refine Nat.le_trans ?_ h1
  rw [useRow_append, useRow_append, List.length_append, List.length_append, List.length_map, List.length_map]
  have := ((List.take_sublist j F[i]).filter fun x => decide (uix x = k)).length_le
  omega
theorem usesV_len (n : Nat) (F : Fm) : (usesV n F).length = 2 * n + 2 := by simp [usesV, uses]
theorem uix_lt {n : Nat} {l : Int} (h : okL n l) : 0 ≤ uix l ∧ uix l < 2 * n + 2 := by unfold uix; have := h.2; split <;> omega
theorem usesV_get {n : Nat} (F : Fm) {k : Nat} (h : k < 2 * n + 2) : (usesV n F)[k]'(by rw [usesV_len]; exact h) = (useRow F k).map encN := by
  simp only [usesV, uses, List.getElem_map, List.getElem_range]
theorem usesV_nil (n : Nat) : usesV n [] = List.replicate (2 * n + 2) [] := by
  refine List.ext_getElem (by rw [usesV_len, List.length_replicate]) fun k h1 h2 => ?_
  rw [usesV_get _ (by rw [usesV_len] at h1; exact h1), List.getElem_replicate]; rfl
theorem usesV_empty (n : Nat) (A : Fm) : usesV n (A ++ [[]]) = usesV n A := by
  refine List.ext_getElem (by rw [usesV_len, usesV_len]) fun k h1 h2 => ?_
  rw [usesV_len] at h1
  rw [usesV_get _ h1, usesV_get _ h1, useRow_append]; simp
theorem usesV_step {n : Nat} (A : Fm) (c : Cl) {l : Int} (hl : okL n l) {r : List Value} (hr : r = (useRow (A ++ [c]) (uix l)).map encN ++ [encN A.length]) : (usesV n (A ++ [c])).set (uix l).toNat r = usesV n (A ++ [c ++ [l]]) := by
  have hu := uix_lt hl
  refine List.ext_getElem (by rw [List.length_set, usesV_len, usesV_len]) fun k h1 h2 => ?_
  rw [usesV_len] at h2
  rw [List.getElem_set, usesV_get _ h2, usesV_get _ h2, useRow_lit]
  by_cases e : (uix l).toNat = k
  · rw [if_pos e, hr, if_pos (by omega)]
    have : uix l = (k : Int) := by omega
    rw [this, List.map_append]; rfl
  · rw [if_neg e, if_neg (by omega), List.append_nil]
theorem trues_none (F : Fm) : trues F (fun _ => none) = List.replicate F.length 0 := by
  refine List.ext_getElem (by simp [trues]) fun k h1 h2 => ?_
  simp only [trues, List.getElem_map, List.getElem_replicate]
  rw [List.countP_eq_zero]
  intro l _
  simp [lv]
theorem vcells_none (n : Nat) : vcells n (fun _ => none) = List.replicate (n + 1) (.int .i64 0) := by
  refine List.ext_getElem (by simp [vcells]) fun k h1 h2 => ?_
  simp [vcells, vcode]
end Go.Z.Sat
namespace Go.Z
open Go
variable {P : Program} {M : Mx} {n : Nat} {L : Fr} {H H' : List Assn} {T : Act → World → Prop}
theorem g_rowO {ei : TypeId} {hs : List (Option Addr × Nat)} {rows : List (List Value)} (h : hs.length = rows.length) {j : Nat} (hj : j < rows.length)
    (k : G M n L (OwnSl ei 1 (hs[j]'(by omega)).1 rows[j].length (hs[j]'(by omega)).2 rows[j] :: ((inns ei hs rows).eraseIdx j ++ H)) T) : G M n L (inns ei hs rows ++ H) T := g_row h hj k
theorem g_unrowO {ei : TypeId} {hs : List (Option Addr × Nat)} {rows : List (List Value)} (h : hs.length = rows.length) {j : Nat} (hj : j < rows.length) (a : Option Addr) (c : Nat) (r : List Value)
    (k : G M n L (inns ei (hs.set j (a, c)) (rows.set j r) ++ H) T) : G M n L (OwnSl ei 1 a r.length c r :: ((inns ei hs rows).eraseIdx j ++ H)) T := g_unrow h hj (a, c) r k
end Go.Z
