/- Chapter 4, plain: cycles and orders. No program in sight. Conditions: none. -/
import Derived.Test.YtmefecnjliadaaaNo
import Derived.Test.YtmefecnjliadaaaNf
namespace Go.Z.Gr
set_option maxRecDepth 8000
set_option linter.unusedVariables false
set_option linter.unusedSimpArgs false
set_option linter.unusedSectionVars false
open Go Go.Z Go.Z.Gra
/-- the distances are those of the search -/
def MD (E : Ed) (t : Int) (k : Nat) (u : Int) : Prop := PT E t k u ∧ ∀ k', PT E t k' u → k ≤ k'
theorem md_levels {E : Ed} {n : Nat} (ho : EdOk n E) {t : Int} (ht : 0 ≤ t ∧ t < n) : ∀ (k : Nat) (u : Int), MD E t k u → ∃ l : List Int, l.length = k + 1 ∧ l.Nodup ∧ ∀ x ∈ l, (0 ≤ x ∧ x < n) ∧ ∃ j, j ≤ k ∧ MD E t j x
  | 0, u, h => ⟨[u], rfl, List.pairwise_singleton .., fun x hx => by
      rw [List.mem_singleton.1 hx]
      have : u = t := h.1
      exact ⟨by rw [this]; exact ht, 0, Nat.le_refl _, h⟩⟩
  | k + 1, u, h => by
    obtain ⟨h1, v, h2, h3⟩ := h.1
    have hv : MD E t k v := ⟨h3, fun k' hk' => by have := h.2 (k' + 1) ⟨h1, v, h2, hk'⟩; omega⟩
    obtain ⟨l, l1, l2, l3⟩ := md_levels ho ht k v hv
    refine ⟨u :: l, by rw [List.length_cons, l1], List.nodup_cons.2 ⟨fun hm => ?_, l2⟩, fun x hx => ?_⟩
    · obtain ⟨-, j, hj, hd⟩ := l3 u hm
      have := h.2 j hd.1
      omega
    · rcases List.mem_cons.1 hx with e | e
      · rw [e]; exact ⟨(ho _ h2).1, k + 1, Nat.le_refl _, h⟩
      · obtain ⟨a, j, hj, hd⟩ := l3 x e
        exact ⟨a, j, by omega, hd⟩
theorem md_lt {E : Ed} {n : Nat} (ho : EdOk n E) {t : Int} (ht : 0 ≤ t ∧ t < n) {k : Nat} {u : Int} (h : MD E t k u) : k < n := by
  obtain ⟨l, l1, l2, l3⟩ := md_levels ho ht k u h
  have hsub := List.Nodup.length_le_of_subset l2 (l₂ := (List.range n).map fun u : Nat => (u : Int)) fun x hx => by
    have := (l3 x hx).1
    exact List.mem_map.2 ⟨x.toNat, List.mem_range.2 (by omega), by omega⟩
  rw [List.length_map, List.length_range] at hsub
  omega
theorem md_ex {E : Ed} {t : Int} {u : Int} : ∀ k, PT E t k u → ∃ j, MD E t j u := by
  intro k
  induction k using Nat.strongRecOn with
  | ind k ih =>
    intro h
    by_cases g : ∃ k', k' < k ∧ PT E t k' u
    · obtain ⟨k', g1, g2⟩ := g
      exact ih k' g1 g2
    · refine ⟨k, h, fun k' hk' => ?_⟩
      by_cases e : k ≤ k'
      · exact e
      · exact absurd ⟨k', by omega, hk'⟩ g
theorem distP_len (E : Ed) (n : Nat) (t : Int) : (distP E n t).length = n := by simp [distP]
theorem distP_lt (E : Ed) (n : Nat) (t : Int) : ∀ x ∈ distP E n t, x < n := by
  intro x hx
  unfold distP at hx
  obtain ⟨u, hu, rfl⟩ := List.mem_map.1 hx
  have := List.mem_range.1 hu
  split
  · rename_i k hk
    have := List.mem_range.1 (List.mem_of_find?_eq_some hk)
    omega
  · omega
theorem distP_ok {E : Ed} {n : Nat} (ho : EdOk n E) {t : Int} (ht : 0 ≤ t ∧ t < n) : DistOk E n t (distP E n t) := by
  refine ⟨distP_len E n t, fun u hu => ?_⟩
  have e : (distP E n t)[u] = match (List.range n).find? (fun k => ptB E t k u) with | some k => (k : Int) | none => -1 := by simp [distP]; rfl
  rw [e]
  cases hf : (List.range n).find? (fun k => ptB E t k u) with
  | some k =>
    rw [List.find?_range_eq_some] at hf
    obtain ⟨h1, h2, h3⟩ := hf
    dsimp only
    refine ⟨fun _ => ⟨by rw [Int.toNat_natCast]; exact ptB_iff.1 h1, fun k' hk' => ?_⟩, fun h => absurd h (Int.not_lt.2 (Int.natCast_nonneg k))⟩
    by_cases g : k ≤ k'
    · omega
    · have h4 := h3 k' (by omega)
      rw [ptB_iff.2 hk'] at h4
      exact absurd h4 (by decide)
  | none =>
    dsimp only
    refine ⟨fun h => absurd h (by decide), fun _ => ⟨rfl, fun k hk => ?_⟩⟩
    obtain ⟨j, hj⟩ := md_ex k hk
    have hjn := md_lt ho ht hj
    rw [List.find?_eq_none] at hf
    exact hf j (List.mem_range.2 hjn) (ptB_iff.2 hj.1)
/-- a closed way: from at over l back to v -/
def Cyc (E : Ed) (v : Int) : Int → List Int → Prop
  | at_, [] => (at_, v) ∈ E
  | at_, w :: l => (at_, w) ∈ E ∧ Cyc E v w l
theorem path_cyc {E : Ed} {n : Nat} (ho : EdOk n E) {v : Nat} (hv : v < n) {d : List Int} (hd : DistOk E n v d) {nb : Int → List Int} (hnb : ∀ u x, x ∈ nb u ↔ (u, x) ∈ E) : ∀ (k : Nat) (at_ : Int), Good nb d v k at_ → (k = 0 → (at_, (v : Int)) ∈ E) →
    Cyc E v at_ (pathP nb d v k at_) ∧ (pathP nb d v k at_).length = k ∧ ∀ w ∈ pathP nb d v k at_, (v : Int) < w
  | 0, at_, _, h0 => ⟨h0 rfl, rfl, fun w hw => absurd hw List.not_mem_nil⟩
  | k + 1, at_, hg, _ => by
    obtain ⟨i, hi⟩ := good_find hg
    obtain ⟨hil, h1, h2, h3⟩ := path_find hi
    have hm : (at_, (nb at_)[i]) ∈ E := (hnb _ _).1 (List.getElem_mem hil)
    generalize (nb at_)[i] = w at *
    have hw := (ho _ hm).2
    dsimp only at hw
    obtain ⟨x, x1, x2, x3⟩ := dist_step ho hd hw h3
    obtain ⟨i1, i2, i3⟩ := path_cyc ho hv hd hnb k w (good_step ho hd hnb hw h3) (fun hk => by
      subst hk
      have hx := (ho _ x1).2
      dsimp only at hx
      obtain ⟨m, rfl⟩ : ∃ m : Nat, x = m := ⟨x.toNat, by omega⟩
      have hl := hd.1
      rw [getI_nat (by omega)] at x2
      have := (hd.2 m (by omega)).1 (by omega)
      rw [x2] at this
      have hxv : (m : Int) = v := this.1
      rw [← hxv]; exact x1)
    rw [h1]
    exact ⟨⟨hm, i1⟩, by rw [List.length_cons, i2], fun y hy => by
      rcases List.mem_cons.1 hy with e | e
      · rw [e]; exact h2
      · exact i3 y e⟩
/-- what a shortest cycle is -/
structure CycOk (E : Ed) (n : Nat) (l : List Int) : Prop where
  ex : ∃ (v : Nat) (p : List Int), l = (v : Int) :: p ∧ v < n ∧ Cyc E v v p ∧ (∀ w ∈ p, (v : Int) < w) ∧ l.length ≤ n
theorem around_cyc {E : Ed} {n : Nat} (ho : EdOk n E) {v : Nat} (hv : v < n) {most : Int} (h : aroundM (nbP E) (distP E n v) v most ≠ []) : CycOk E n (aroundM (nbP E) (distP E n v) v most) := by
  have hd := distP_ok ho (t := v) ⟨by omega, by omega⟩
  unfold aroundM at h ⊢
  by_cases hb : bestP (distP E n v) v (nbP E v) most = most
  · rw [if_pos hb] at h; exact absurd rfl h
  · rw [if_neg hb]
    have hle := bestP_le (distP E n v) v (nbP E v) most
    have hlt : bestP (distP E n v) v (nbP E v) most < most := by omega
    obtain ⟨w, w1, w2, w3, w4⟩ := bestP_lt hlt
    have hm := nbP_mem.1 w1
    have hwn := (ho _ hm).2
    dsimp only at hwn
    obtain ⟨x, rfl⟩ : ∃ x : Nat, w = x := ⟨w.toNat, by omega⟩
    have hgl := distP_len E n v
    have hgn : getI (distP E n v) x < n := by rw [getI_nat (by omega)]; exact distP_lt E n v _ (List.getElem_mem _)
    obtain ⟨k, hk⟩ : ∃ k : Nat, bestP (distP E n v) v (nbP E v) most = ((k + 1 : Nat) : Int) := ⟨(getI (distP E n v) x).toNat, by omega⟩
    have hg := good_first hv hd hlt hk
    obtain ⟨i1, i2, i3⟩ := path_cyc ho hv hd (nb := nbP E) (fun u x => nbP_mem) k v hg (fun h0 => by
      subst h0
      have h0 : getI (distP E n v) x = 0 := by omega
      rw [getI_nat (by omega)] at h0
      have := (hd.2 x (by omega)).1 (by omega)
      rw [h0] at this
      have hxv : (x : Int) = v := this.1
      rw [hxv] at hm; exact hm)
    rw [show (bestP (distP E n v) v (nbP E v) most - 1).toNat = k by omega]
    exact ⟨v, _, rfl, hv, i1, i3, by rw [List.length_cons, i2]; omega⟩
theorem cycleP_cyc {E : Ed} {n : Nat} (ho : EdOk n E) (h : cycleP E n ≠ []) : CycOk E n (cycleP E n) := by
  have hl : ∀ (l : List Nat) (b : List Int), (∀ v ∈ l, v < n) → (b ≠ [] → CycOk E n b) → l.foldl (stepC E n) b ≠ [] → CycOk E n (l.foldl (stepC E n) b) := by
    intro l
    induction l with
    | nil => intro b _ hb h; exact hb h
    | cons v l ih =>
      intro b hv hb h
      refine ih _ (fun x hx => hv x (List.mem_cons_of_mem _ hx)) (fun hs => ?_) h
      unfold stepC at hs ⊢
      dsimp only at hs ⊢
      generalize hM : (if b = [] then (n : Int) + 1 else b.length) = M at hs ⊢
      by_cases hc : aroundM (nbP E) (distP E n v) v M = []
      · rw [if_pos hc] at hs ⊢; exact hb hs
      · rw [if_neg hc] at hs ⊢; exact around_cyc ho (hv v List.mem_cons_self) hc
  exact hl (List.range n) [] (fun v hv => List.mem_range.1 hv) (fun h => absurd rfl h) h
/-- a closed way whose least vertex is v makes Cycle find one -/
theorem cycleP_some {E : Ed} {n : Nat} (ho : EdOk n E) {v : Nat} {w : Int} {k : Nat} (h1 : ((v : Int), w) ∈ E) (h2 : PT E v k w) : cycleP E n ≠ [] := by
  have hv : v < n := by have := (ho _ h1).1; dsimp only at this; omega
  have hkeep : ∀ (l : List Nat) (b : List Int), b ≠ [] → l.foldl (stepC E n) b ≠ [] := by
    intro l
    induction l with
    | nil => intro b h; exact h
    | cons x l ih =>
      intro b h
      refine ih _ ?_
      unfold stepC
      dsimp only
      generalize (if b = [] then (n : Int) + 1 else b.length) = M
      split
      · exact h
      · rename_i hc; exact hc
  have hstep : ∀ b, stepC E n b v ≠ [] := by
    intro b
    by_cases hb : b = []
    · subst hb
      have hd := distP_ok ho (t := v) ⟨by omega, by omega⟩
      have hwn := (ho _ h1).2
      dsimp only at hwn
      have hvw : (v : Int) ≤ w := by
        cases k with
        | zero => have : w = v := h2; omega
        | succ k => have := h2.1; omega
      obtain ⟨x, rfl⟩ : ∃ x : Nat, w = x := ⟨w.toNat, by omega⟩
      have hgl := distP_len E n v
      have hx := hd.2 x (by omega)
      have h0 : 0 ≤ (distP E n v)[x] := by
        by_cases e : 0 ≤ (distP E n v)[x]
        · exact e
        · exact absurd h2 ((hx.2 (by omega)).2 k)
      have hlt := distP_lt E n v _ (List.getElem_mem (show x < (distP E n v).length by omega))
      have hmin := bestP_min (d := distP E n v) (v := (v : Int)) (l := nbP E v) (b := (n : Int) + 1) x (nbP_mem.2 h1) hvw (by rw [getI_nat (by omega)]; exact h0)
      rw [getI_nat (by omega)] at hmin
      have hne : aroundM (nbP E) (distP E n v) v ((n : Int) + 1) ≠ [] := by
        unfold aroundM
        rw [if_neg (by omega)]
        exact List.cons_ne_nil _ _
      unfold stepC
      dsimp only
      rw [if_pos rfl, if_neg hne]
      exact hne
    · exact hkeep [v] b hb
  unfold cycleP
  obtain ⟨l1, l2, hl⟩ := List.append_of_mem (List.mem_range.2 hv)
  rw [hl, List.foldl_append, List.foldl_cons]
  exact hkeep _ _ (hstep _)
end Go.Z.Gr
