/- Chapter 4, plain: a list as a heap. No program in sight. Conditions: none. -/
namespace Go.Z.Gr
set_option maxRecDepth 8000
set_option linter.unusedVariables false
set_option linter.unusedSimpArgs false
set_option linter.unusedSectionVars false
def gI (l : List Int) (k : Nat) : Int := l.getD k 0
theorem gI_at {l : List Int} {k : Nat} (h : k < l.length) : gI l k = l[k] := by unfold gI; rw [List.getD_eq_getElem?_getD, List.getElem?_eq_getElem h]; rfl
def swapL (l : List Int) (i j : Nat) : List Int := (l.set i (gI l j)).set j (gI l i)
theorem swapL_len (l : List Int) (i j : Nat) : (swapL l i j).length = l.length := by unfold swapL; rw [List.length_set, List.length_set]
theorem swapL_at {l : List Int} {i j k : Nat} (hi : i < l.length) (hj : j < l.length) : gI (swapL l i j) k = if k = j then gI l i else if k = i then gI l j else gI l k := by
  by_cases hk : k < l.length
  · rw [gI_at (by rw [swapL_len]; exact hk)]
    have e : (swapL l i j)[k]'(by rw [swapL_len]; exact hk) = if j = k then gI l i else if i = k then gI l j else l[k] := by simp only [swapL, List.getElem_set]
    rw [e]
    by_cases h1 : j = k
    · rw [if_pos h1, if_pos h1.symm]
    · rw [if_neg h1, if_neg (show ¬ k = j from fun e => h1 e.symm)]
      by_cases h2 : i = k
      · rw [if_pos h2, if_pos h2.symm]
      · rw [if_neg h2, if_neg (show ¬ k = i from fun e => h2 e.symm), gI_at hk]
  · rw [if_neg (by omega), if_neg (by omega)]
    unfold gI
    rw [List.getD_eq_getElem?_getD, List.getD_eq_getElem?_getD, List.getElem?_eq_none (by rw [swapL_len]; omega), List.getElem?_eq_none (by omega)]
theorem swapL_perm {l : List Int} {i j : Nat} (hi : i < l.length) (hj : j < l.length) : (swapL l i j).Perm l := by
  unfold swapL
  rw [gI_at hi, gI_at hj]
  exact List.set_set_perm hi hj
/-- the first m places are a heap -/
def isHeap (l : List Int) (m : Nat) : Prop := ∀ k, 0 < k → k < m → gI l ((k - 1) / 2) ≤ gI l k
theorem heap_min {l : List Int} {m : Nat} (h : isHeap l m) : ∀ k, k < m → gI l 0 ≤ gI l k := by
  intro k
  induction k using Nat.strongRecOn with
  | ind k ih =>
    intro hk
    rcases Nat.eq_zero_or_pos k with h0 | h0
    · rw [h0]; exact Int.le_refl _
    · have h1 := h k h0 hk
      have h2 := ih ((k - 1) / 2) (by omega) (by omega)
      omega
def upI (l : List Int) (j : Nat) : Prop := (∀ k, 0 < k → k < l.length → k ≠ j → gI l ((k - 1) / 2) ≤ gI l k) ∧ (0 < j → ∀ c, 0 < c → c < l.length → (c - 1) / 2 = j → gI l ((j - 1) / 2) ≤ gI l c)
theorem up_zero {l : List Int} (h : upI l 0) : isHeap l l.length := fun k h1 h2 => h.1 k h1 h2 (by omega)
theorem up_stop {l : List Int} {j : Nat} (h : upI l j) (hs : ¬ gI l j < gI l ((j - 1) / 2)) : isHeap l l.length := fun k h1 h2 => by
  by_cases e : k = j
  · rw [e]; omega
  · exact h.1 k h1 h2 e
theorem up_step {l : List Int} {j : Nat} (h : upI l j) (h0 : 0 < j) (hj : j < l.length) (hs : gI l j < gI l ((j - 1) / 2)) : upI (swapL l ((j - 1) / 2) j) ((j - 1) / 2) := by
  have hi : (j - 1) / 2 < l.length := by omega
  generalize hp : (j - 1) / 2 = i at hs hi ⊢
  obtain ⟨a1, a2⟩ := h
  have a2' := a2 h0
  rw [hp] at a2'
  have hij : i < j := by omega
  refine ⟨fun k k0 kl ki => ?_, fun i0 c c0 cl ci => ?_⟩
  · rw [swapL_len] at kl
    rw [swapL_at hi hj, swapL_at hi hj]
    by_cases kj : k = j
    · subst kj
      rw [if_pos rfl, hp, if_neg (by omega), if_pos rfl]; omega
    · rw [if_neg kj, if_neg ki]
      have hk := a1 k k0 kl kj
      by_cases p1 : (k - 1) / 2 = j
      · rw [if_pos p1]; exact a2' k k0 kl p1
      · rw [if_neg p1]
        by_cases p2 : (k - 1) / 2 = i
        · rw [if_pos p2]; rw [p2] at hk; omega
        · rw [if_neg p2]; exact hk
  · rw [swapL_len] at cl
    rw [swapL_at hi hj, swapL_at hi hj]
    rw [if_neg (by omega), if_neg (by omega)]
    have hpi := a1 i i0 hi (by omega)
    by_cases cj : c = j
    · rw [if_pos cj]; exact hpi
    · rw [if_neg cj, if_neg (by omega)]
      have := a1 c c0 cl cj
      rw [ci] at this
      omega
def dnI (l : List Int) (i m : Nat) : Prop := (∀ k, 0 < k → k < m → (k - 1) / 2 ≠ i → gI l ((k - 1) / 2) ≤ gI l k) ∧ (0 < i → ∀ c, 0 < c → c < m → (c - 1) / 2 = i → gI l ((i - 1) / 2) ≤ gI l c)
theorem dn_none {l : List Int} {i m : Nat} (h : dnI l i m) (hc : m ≤ 2 * i + 1) : isHeap l m := fun k h1 h2 => h.1 k h1 h2 (by omega)
theorem dn_stop {l : List Int} {i j m : Nat} (h : dnI l i m) (hm : ∀ c, 0 < c → c < m → (c - 1) / 2 = i → gI l j ≤ gI l c) (hs : ¬ gI l j < gI l i) : isHeap l m := fun k h1 h2 => by
  by_cases e : (k - 1) / 2 = i
  · rw [e]; have := hm k h1 h2 e; omega
  · exact h.1 k h1 h2 e
theorem dn_step {l : List Int} {i j m : Nat} (h : dnI l i m) (hml : m ≤ l.length) (hj : j < m) (hji : 0 < j ∧ (j - 1) / 2 = i) (hm : ∀ c, 0 < c → c < m → (c - 1) / 2 = i → gI l j ≤ gI l c) (hs : gI l j < gI l i) : dnI (swapL l i j) j m := by
  obtain ⟨a1, a2⟩ := h
  obtain ⟨j0, hp⟩ := hji
  have hi : i < l.length := by omega
  have hjl : j < l.length := by omega
  have hij : i < j := by omega
  refine ⟨fun k k0 km kp => ?_, fun _ c c0 cm cp => ?_⟩
  · rw [swapL_at hi hjl, swapL_at hi hjl, if_neg kp]
    by_cases p1 : (k - 1) / 2 = i
    · rw [if_pos p1]
      by_cases kj : k = j
      · rw [if_pos kj]; omega
      · rw [if_neg kj, if_neg (by omega)]; exact hm k k0 km p1
    · rw [if_neg p1]
      have hk := a1 k k0 km p1
      rw [if_neg (by intro e; rw [e] at p1; exact p1 hp)]
      by_cases ki : k = i
      · rw [if_pos ki, ki]
        exact a2 (by omega) j j0 hj hp
      · rw [if_neg ki]; exact hk
  · rw [swapL_at hi hjl, swapL_at hi hjl, hp, if_neg (by omega), if_pos rfl, if_neg (by omega), if_neg (by omega)]
    have := a1 c c0 cm (by omega)
    rw [cp] at this; exact this
theorem dn_start {l : List Int} (h : isHeap l l.length) (h0 : 0 < l.length) : dnI (swapL l 0 (l.length - 1)) 0 (l.length - 1) := by
  refine ⟨fun k k0 km kp => ?_, fun h => absurd h (Nat.lt_irrefl 0)⟩
  rw [swapL_at (by omega) (by omega), swapL_at (by omega) (by omega), if_neg (by omega), if_neg kp, if_neg (by omega), if_neg (by omega)]
  exact h k k0 (by omega)
end Go.Z.Gr
