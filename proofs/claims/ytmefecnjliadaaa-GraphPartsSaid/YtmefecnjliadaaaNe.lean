/- Chapter 4, plain: the least of the shortest cycles. No program in sight. Conditions: none. -/
import Derived.Test.YtmefecnjliadaaaNb
namespace Go.Z.Gr
set_option maxRecDepth 8000
set_option linter.unusedVariables false
set_option linter.unusedSimpArgs false
set_option linter.unusedSectionVars false
open Go.Lib
def ptB (E : Ed) (t : Int) : Nat → Int → Bool
  | 0, u => decide (u = t)
  | k + 1, u => decide (t < u) && E.any fun e => decide (e.1 = u) && ptB E t k e.2
theorem ptB_iff {E : Ed} {t : Int} : ∀ {k u}, ptB E t k u = true ↔ PT E t k u
  | 0, u => by unfold ptB PT; exact decide_eq_true_iff
  | k + 1, u => by
    unfold ptB PT
    rw [Bool.and_eq_true, decide_eq_true_iff, List.any_eq_true]
    constructor
    · rintro ⟨h1, ⟨a, b⟩, h2, h3⟩
      rw [Bool.and_eq_true, decide_eq_true_iff] at h3
      obtain ⟨h4, h5⟩ := h3
      dsimp only at h4 h5
      subst h4
      exact ⟨h1, b, h2, ptB_iff.1 h5⟩
    · rintro ⟨h1, v, h2, h3⟩
      exact ⟨h1, (u, v), h2, by rw [Bool.and_eq_true]; exact ⟨decide_eq_true rfl, ptB_iff.2 h3⟩⟩
def distP (E : Ed) (n : Nat) (t : Int) : List Int := (List.range n).map fun u : Nat => match (List.range n).find? (fun k => ptB E t k u) with
  | some k => (k : Int)
  | none => -1
theorem dist_eq {E : Ed} {n : Nat} {t : Int} {d : List Int} (h : DistOk E n t d) (hl : ∀ x ∈ d, x < n) : d = distP E n t := by
  have hn := h.1
  refine List.ext_getElem (by simp [distP, hn]) fun u h1 h2 => ?_
  have e : (distP E n t)[u] = match (List.range n).find? (fun k => ptB E t k u) with | some k => (k : Int) | none => -1 := by simp [distP]
  rw [e]
  obtain ⟨a1, a2⟩ := h.2 u h1
  have hlt := hl _ (List.getElem_mem h1)
  by_cases h0 : 0 ≤ d[u]
  · obtain ⟨p1, p2⟩ := a1 h0
    have hf : (List.range n).find? (fun k => ptB E t k u) = some d[u].toNat := by
      rw [List.find?_range_eq_some]
      refine ⟨ptB_iff.2 p1, List.mem_range.2 (by omega), fun j hj => ?_⟩
      cases hb : ptB E t j u with
      | false => rfl
      | true => have := p2 j (ptB_iff.1 hb); omega
    rw [hf]; show _ = ((d[u].toNat : Nat) : Int); omega
  · obtain ⟨p1, p2⟩ := a2 (by omega)
    have hf : (List.range n).find? (fun k => ptB E t k u) = none := by
      rw [List.find?_eq_none]
      intro k _ hb
      exact p2 k (ptB_iff.1 hb)
    rw [hf, p1]
theorem ptB_eq {E E' : Ed} (h : ∀ e, e ∈ E ↔ e ∈ E') (t : Int) (k : Nat) (u : Int) : ptB E t k u = ptB E' t k u := by
  rw [Bool.eq_iff_iff, ptB_iff, ptB_iff]; exact PT_eq h t k u
theorem distP_eq {E E' : Ed} (h : ∀ e, e ∈ E ↔ e ∈ E') (n : Nat) (t : Int) : distP E n t = distP E' n t := by
  unfold distP
  congr 1
  funext u
  simp only [ptB_eq h]
def pathP (nb : Int → List Int) (d : List Int) (v : Int) : Nat → Int → List Int
  | 0, _ => []
  | k + 1, at_ => match (nb at_).find? (fun w => decide (v < w ∧ getI d w = ((k + 1 : Nat) : Int))) with
    | some w => w :: pathP nb d v k w
    | none => []
def stepB (d : List Int) (v b w : Int) : Int := if v ≤ w ∧ 0 ≤ getI d w then min b (getI d w + 1) else b
def bestP (d : List Int) (v : Int) (l : List Int) (most : Int) : Int := l.foldl (stepB d v) most
def aroundM (nb : Int → List Int) (d : List Int) (v most : Int) : List Int := if bestP d v (nb v) most = most then [] else v :: pathP nb d v ((bestP d v (nb v) most) - 1).toNat v
def stepC (E : Ed) (n : Nat) (best : List Int) (v : Nat) : List Int :=
  let c := aroundM (nbP E) (distP E n v) v (if best = [] then (n : Int) + 1 else best.length)
  if c = [] then best else c
def cycleP (E : Ed) (n : Nat) : List Int := (List.range n).foldl (stepC E n) []
theorem cycle_eq {E E' : Ed} (h : ∀ e, e ∈ E ↔ e ∈ E') (n : Nat) : cycleP E n = cycleP E' n := by
  have hn : nbP E = nbP E' := funext fun v => nbP_eq h v
  have hs : stepC E n = stepC E' n := by
    funext b v
    unfold stepC
    rw [hn, distP_eq h]
  unfold cycleP
  rw [hs]
theorem bestP_le (d : List Int) (v : Int) : ∀ (l : List Int) (b : Int), bestP d v l b ≤ b
  | [], b => Int.le_refl _
  | w :: l, b => by
    have h1 := bestP_le d v l (stepB d v b w)
    have h2 : stepB d v b w ≤ b := by unfold stepB; split <;> omega
    have h3 : bestP d v (w :: l) b = bestP d v l (stepB d v b w) := rfl
    omega
theorem bestP_lt {d : List Int} {v : Int} : ∀ {l : List Int} {b : Int}, bestP d v l b < b → ∃ w ∈ l, v ≤ w ∧ 0 ≤ getI d w ∧ bestP d v l b = getI d w + 1
  | [], b, h => absurd h (Int.lt_irrefl _)
  | w :: l, b, h => by
    have h3 : bestP d v (w :: l) b = bestP d v l (stepB d v b w) := rfl
    rw [h3] at h ⊢
    by_cases h4 : bestP d v l (stepB d v b w) < stepB d v b w
    · obtain ⟨x, h5, h6⟩ := bestP_lt h4
      exact ⟨x, List.mem_cons_of_mem _ h5, h6⟩
    · have h5 := bestP_le d v l (stepB d v b w)
      have h6 : bestP d v l (stepB d v b w) = stepB d v b w := by omega
      rw [h6] at h ⊢
      unfold stepB at h ⊢
      by_cases hc : v ≤ w ∧ 0 ≤ getI d w
      · rw [if_pos hc] at h ⊢
        exact ⟨w, List.mem_cons_self, hc.1, hc.2, by omega⟩
      · rw [if_neg hc] at h; omega
theorem bestP_min {d : List Int} {v : Int} : ∀ {l : List Int} {b : Int}, ∀ w ∈ l, v ≤ w → 0 ≤ getI d w → bestP d v l b ≤ getI d w + 1
  | x :: l, b, w, hm, h1, h2 => by
    have h3 : bestP d v (x :: l) b = bestP d v l (stepB d v b x) := rfl
    rw [h3]
    rcases List.mem_cons.1 hm with e | e
    · subst e
      have := bestP_le d v l (stepB d v b w)
      have h4 : stepB d v b w ≤ getI d w + 1 := by unfold stepB; rw [if_pos ⟨h1, h2⟩]; omega
      omega
    · exact bestP_min w e h1 h2
/-- from a vertex at distance k + 1 an edge leads to one at distance k -/
theorem dist_step {E : Ed} {n : Nat} (ho : ∀ e ∈ E, (0 ≤ e.1 ∧ e.1 < n) ∧ 0 ≤ e.2 ∧ e.2 < n) {v : Int} {d : List Int} (h : DistOk E n v d) {w : Int} (hw : 0 ≤ w ∧ w < n) {k : Nat} (hd : getI d w = ((k + 1 : Nat) : Int)) : ∃ x, (w, x) ∈ E ∧ getI d x = k ∧ (0 < k → v < x) := by
  have hn := h.1
  obtain ⟨m, rfl⟩ : ∃ m : Nat, w = m := ⟨w.toNat, by omega⟩
  obtain ⟨a1, -⟩ := h.2 m (by omega)
  rw [getI_nat (by omega)] at hd
  obtain ⟨p1, p2⟩ := a1 (by omega)
  rw [show d[m].toNat = k + 1 by omega] at p1
  obtain ⟨q1, x, q2, q3⟩ := p1
  obtain ⟨-, x1, x2⟩ := ho _ q2
  dsimp only at x1 x2
  obtain ⟨y, rfl⟩ : ∃ y : Nat, x = y := ⟨x.toNat, by omega⟩
  obtain ⟨b1, b2⟩ := h.2 y (by omega)
  have hy0 : 0 ≤ d[y] := by
    by_cases e : 0 ≤ d[y]
    · exact e
    · exact absurd q3 ((b2 (by omega)).2 _)
  obtain ⟨c1, c2⟩ := b1 hy0
  have hle := c2 _ q3
  have hge := p2 (d[y].toNat + 1) ⟨q1, _, q2, c1⟩
  refine ⟨y, q2, by rw [getI_nat (by omega)]; omega, fun h0 => ?_⟩
  obtain ⟨j, rfl⟩ : ∃ j, k = j + 1 := ⟨k - 1, by omega⟩
  exact q3.1
/-- the next vertex is there -/
def Good (nb : Int → List Int) (d : List Int) (v : Int) (k : Nat) (at_ : Int) : Prop := 0 < k → ∃ w ∈ nb at_, v < w ∧ getI d w = (k : Int)
theorem good_step {E : Ed} {n : Nat} (ho : ∀ e ∈ E, (0 ≤ e.1 ∧ e.1 < n) ∧ 0 ≤ e.2 ∧ e.2 < n) {v : Int} {d : List Int} (h : DistOk E n v d) {nb : Int → List Int} (hnb : ∀ u x, x ∈ nb u ↔ (u, x) ∈ E) {w : Int} (hw : 0 ≤ w ∧ w < n) {k : Nat} (hd : getI d w = ((k + 1 : Nat) : Int)) : Good nb d v k w := fun h0 => by
  obtain ⟨x, h1, h2, h3⟩ := dist_step ho h hw hd
  exact ⟨x, (hnb _ _).2 h1, h3 h0, h2⟩
theorem getI_self {E : Ed} {n : Nat} {v : Nat} {d : List Int} (h : DistOk E n v d) (hv : v < n) : getI d v = 0 := by
  have hn := h.1
  rw [getI_nat (by omega)]
  obtain ⟨a1, a2⟩ := h.2 v (by omega)
  have hp : PT E v 0 v := rfl
  by_cases e : 0 ≤ d[v]
  · have := (a1 e).2 0 hp; omega
  · exact absurd hp ((a2 (by omega)).2 0)
theorem good_first {E : Ed} {n : Nat} {v : Nat} (hv : v < n) {d : List Int} (h : DistOk E n v d) {nb : Int → List Int} {most : Int} (hb : bestP d v (nb v) most < most) {k : Nat} (hk : bestP d v (nb v) most = ((k + 1 : Nat) : Int)) : Good nb d v k v := fun h0 => by
  obtain ⟨w, h1, h2, h3, h4⟩ := bestP_lt hb
  have hs := getI_self h hv
  refine ⟨w, h1, ?_, by omega⟩
  by_cases e : w = v
  · rw [e, hs] at h4; omega
  · omega
theorem path_find {nb : Int → List Int} {d : List Int} {v : Int} {k : Nat} {at_ : Int} {i : Nat} (h : (nb at_).findIdx? (fun w => decide (v < w ∧ getI d w = ((k + 1 : Nat) : Int))) = some i) : ∃ hi : i < (nb at_).length, pathP nb d v (k + 1) at_ = (nb at_)[i] :: pathP nb d v k (nb at_)[i] ∧ v < (nb at_)[i] ∧ getI d (nb at_)[i] = ((k + 1 : Nat) : Int) := by
  rw [List.findIdx?_eq_some_iff_getElem] at h
  obtain ⟨hi, h1, h2⟩ := h
  have hf : (nb at_).find? (fun w => decide (v < w ∧ getI d w = ((k + 1 : Nat) : Int))) = some (nb at_)[i] := by
    rw [List.find?_eq_some_iff_getElem]
    exact ⟨h1, i, hi, rfl, fun j hj => by rw [Bool.not_eq_true']; exact Bool.eq_false_iff.2 (h2 j hj)⟩
  refine ⟨hi, ?_, of_decide_eq_true h1⟩
  conv => lhs; unfold pathP
  rw [hf]
theorem good_find {nb : Int → List Int} {d : List Int} {v : Int} {k : Nat} {at_ : Int} (h : Good nb d v (k + 1) at_) : ∃ i, (nb at_).findIdx? (fun w => decide (v < w ∧ getI d w = ((k + 1 : Nat) : Int))) = some i := by
  obtain ⟨w, h1, h2, h3⟩ := h (by omega)
  cases e : (nb at_).findIdx? (fun w => decide (v < w ∧ getI d w = ((k + 1 : Nat) : Int))) with
  | some i => exact ⟨i, rfl⟩
  | none =>
    rw [List.findIdx?_eq_none_iff] at e
    have := e w h1
    simp only [decide_eq_false_iff_not] at this
    exact absurd ⟨h2, h3⟩ this
end Go.Z.Gr
