/- Chapter 37: counts of true literals, plain. Conditions: none. -/
import Derived.Test.YtbpgblbhikeglaaS4
namespace Go.Z.Sat
set_option linter.unusedVariables false
set_option linter.unusedSimpArgs false
set_option linter.unusedSectionVars false
open Go Go.Z

theorem uix_inj {x l : Int} (hx : x ≠ 0) (hl : l ≠ 0) : uix x = uix l ↔ x = l := by
  unfold uix
  constructor
  · intro h; split at h <;> split at h <;> omega
  · rintro rfl; rfl

def bump1 (X : List Nat) (i : Nat) : List Nat := X.set i (X.getD i 0 + 1)
def bump (X : List Nat) (us : List Nat) : List Nat := us.foldl bump1 X
theorem bump1_len (X : List Nat) (i : Nat) : (bump1 X i).length = X.length := by simp [bump1]
theorem bump_len : ∀ (us X : List Nat), (bump X us).length = X.length
  | [], X => rfl
  | i :: us, X => by show (bump (bump1 X i) us).length = _; rw [bump_len us, bump1_len]
theorem bump_snoc (X us : List Nat) (i : Nat) : bump X (us ++ [i]) = bump1 (bump X us) i := by simp [bump]
theorem bump1_get (X : List Nat) (i j : Nat) : (bump1 X i).getD j 0 = X.getD j 0 + if i = j ∧ j < X.length then 1 else 0 := by
  unfold bump1
  rw [List.getD_eq_getElem?_getD, List.getD_eq_getElem?_getD, List.getD_eq_getElem?_getD, List.getElem?_set]
  by_cases h : i = j
  · subst h
    by_cases h2 : i < X.length
    · simp [h2]
    · simp [h2, List.getElem?_eq_none (show X.length ≤ i by omega)]
  · simp [h]
theorem bump_get : ∀ (us X : List Nat) (j : Nat), j < X.length → (bump X us).getD j 0 = X.getD j 0 + us.count j
  | [], X, j, _ => by simp [bump]
  | i :: us, X, j, h => by
    show (bump (bump1 X i) us).getD j 0 = _
    rw [bump_get us _ j (by rw [bump1_len]; exact h), bump1_get, List.count_cons]
    by_cases e : i = j
    · simp [e, h]; omega
    · simp [e]

theorem row_count (k : Int) (i : Nat) : ∀ (F : Fm) (s : Nat), ((F.zipIdx s).flatMap fun p => (p.1.filter fun x => decide (uix x = k)).map fun _ => p.2).count i = if h : s ≤ i ∧ i - s < F.length then (F[i - s].filter fun x => decide (uix x = k)).length else 0
  | [], s => by simp
  | c :: F, s => by
    rw [List.zipIdx_cons, List.flatMap_cons, List.count_append, row_count k i F (s + 1)]
    have e1 : ((c.filter fun x => decide (uix x = k)).map fun _ => s).count i = if s = i then (c.filter fun x => decide (uix x = k)).length else 0 := by
      rw [List.map_const', List.count_replicate]; simp
    rw [e1]
    by_cases h : s = i
    · subst h
      rw [dif_neg (by omega), dif_pos ⟨Nat.le_refl _, by simp⟩]
      simp
    · simp only [h, if_false, Nat.zero_add]
      by_cases h1 : s + 1 ≤ i ∧ i - (s + 1) < F.length
      · rw [dif_pos h1, dif_pos ⟨by omega, by simp; omega⟩]
        have : i - s = (i - (s + 1)) + 1 := by omega
        simp only [this, List.getElem_cons_succ]
      · rw [dif_neg h1, dif_neg]
        rintro ⟨h2, h3⟩
        simp only [List.length_cons] at h3
        omega
theorem useRow_count (F : Fm) (k : Int) (i : Nat) (hi : i < F.length) : (useRow F k).count i = (F[i].filter fun x => decide (uix x = k)).length := by
  unfold useRow
  rw [row_count k i F 0, dif_pos ⟨Nat.zero_le _, by simpa using hi⟩]
  rfl
theorem useRow_lt {F : Fm} {k : Int} {i : Nat} (h : i ∈ useRow F k) : ∃ hi : i < F.length, ∃ x ∈ F[i], uix x = k := by
  unfold useRow at h
  obtain ⟨p, hp, h2⟩ := List.mem_flatMap.1 h
  obtain ⟨x, hx, rfl⟩ := List.mem_map.1 h2
  obtain ⟨h3, h4⟩ := List.mem_filter.1 hx
  obtain ⟨c, j⟩ := p
  have h5 := List.mem_zipIdx hp
  obtain ⟨_, h6, h7⟩ := h5
  have e : j - 0 = j := Nat.sub_zero j
  refine ⟨by simpa using h6, x, ?_, by simpa using h4⟩
  simp only [Nat.sub_zero] at h7
  rw [← h7]; exact h3
theorem useRow_mem {F : Fm} {k : Int} {i : Nat} (hi : i < F.length) {x : Int} (hx : x ∈ F[i]) (hk : uix x = k) : i ∈ useRow F k := by
  have := useRow_count F k i hi
  have h2 : 0 < (F[i].filter fun x => decide (uix x = k)).length := List.length_pos_of_mem (List.mem_filter.2 ⟨hx, by simpa using hk⟩)
  exact List.count_pos_iff.1 (by omega)

theorem trues_get (F : Fm) (a : As) (i : Nat) (hi : i < F.length) : (trues F a).getD i 0 = F[i].countP fun l => decide (lv a l = some true) := by
  unfold trues
  rw [List.getD_eq_getElem?_getD, List.getElem?_map, List.getElem?_eq_getElem hi]; rfl
theorem trues_le (F : Fm) (a : As) (i : Nat) (hi : i < F.length) : (trues F a).getD i 0 ≤ F[i].length := by
  rw [trues_get F a i hi]; exact List.countP_le_length

theorem countP_put {V : As} {l : Int} (hl : l ≠ 0) (hn : lv V l = none) : ∀ (c : Cl), (∀ x ∈ c, x ≠ 0) → (c.countP fun x => decide (lv (put V l) x = some true)) = (c.countP fun x => decide (lv V x = some true)) + (c.filter fun x => decide (uix x = uix l)).length
  | [], _ => rfl
  | x :: c, h => by
    have hx := h x (by simp)
    have ih := countP_put hl hn c fun y hy => h y (by simp [hy])
    rw [List.countP_cons, List.countP_cons, List.filter_cons, ih]
    by_cases e : x = l
    · subst e
      simp [lv_put hl, hn]; omega
    · have e2 : (uix x = uix l) = False := by simp [uix_inj hx hl, e]
      have e3 : (lv (put V l) x = some true) = (lv V x = some true) := by
        apply propext
        constructor
        · intro h1
          rcases lv_put_cases hl h1 hx with h2 | ⟨h2, _⟩ | ⟨_, h2⟩
          · exact h2
          · exact absurd h2 e
          · cases h2
        · exact fun h1 => (le_put hn).lv h1
      simp only [e2, e3, decide_false, Bool.false_eq_true, if_false]; omega

theorem bump1_count {X : List Nat} {i : Nat} (h : i < X.length) : (bump1 X i).count 0 + (if X.getD i 0 = 0 then 1 else 0) = X.count 0 := by
  have e : X.getD i 0 = X[i] := by rw [List.getD_eq_getElem?_getD, List.getElem?_eq_getElem h]; rfl
  unfold bump1
  rw [e, List.count_set h]
  have hpos : X[i] = 0 → 0 < X.count 0 := fun h0 => List.count_pos_iff.2 (by rw [← h0]; exact List.getElem_mem h)
  by_cases h0 : X[i] = 0
  · have := hpos h0; simp [h0]; omega
  · simp [h0]

theorem trues_len (F : Fm) (a : As) : (trues F a).length = F.length := by simp [trues]
theorem trues_put {F : Fm} {n : Nat} (hF : okF n F) {V : As} {l : Int} (hl : l ≠ 0) (hn : lv V l = none) : bump (trues F V) (useRow F (uix l)) = trues F (put V l) := by
  refine List.ext_getElem (by rw [bump_len, trues_len, trues_len]) fun i h1 h2 => ?_
  have hi : i < F.length := by rw [trues_len] at h2; exact h2
  have e1 : ∀ (X : List Nat) (h : i < X.length), X[i] = X.getD i 0 := fun X h => by rw [List.getD_eq_getElem?_getD, List.getElem?_eq_getElem h]; rfl
  rw [e1 _ h1, e1 _ h2, bump_get _ _ _ (by rw [trues_len]; exact hi), trues_get F _ i hi, trues_get F _ i hi, useRow_count F _ i hi, countP_put hl hn _ fun x hx => (hF F[i] (List.getElem_mem hi) x hx).1]

theorem vcells_put {n : Nat} {V : As} {l : Int} (hl : okL n l) : (vcells n V).set l.natAbs (.int .i64 (if 0 < l then 1 else 2)) = vcells n (put V l) := by
  refine List.ext_getElem? fun i => ?_
  rw [List.getElem?_set]
  by_cases h : l.natAbs = i
  · have hi : i ≤ n := by have := hl.2; omega
    rw [if_pos h, vcells_len, if_pos (by omega), vcells_at _ hi]
    unfold put
    rw [if_pos h.symm]
    by_cases h0 : 0 < l
    · rw [if_pos h0, decide_eq_true h0]; rfl
    · rw [if_neg h0, decide_eq_false h0]; rfl
  · rw [if_neg h]
    by_cases hi : i ≤ n
    · rw [vcells_at _ hi, vcells_at _ hi]
      unfold put
      rw [if_neg (fun e => h e.symm)]
    · rw [List.getElem?_eq_none (by rw [vcells_len]; omega), List.getElem?_eq_none (by rw [vcells_len]; omega)]
end Go.Z.Sat
