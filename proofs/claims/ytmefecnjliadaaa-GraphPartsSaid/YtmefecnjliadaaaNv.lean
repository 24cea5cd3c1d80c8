/- Chapter 4, plain: an order goes forward; it is there exactly if there is no cycle. No program in sight. Conditions: none. -/
import Derived.Test.YtmefecnjliadaaaNu
import Derived.Test.YtmefecnjliadaaaNd
namespace Go.Z.Gr
set_option maxRecDepth 8000
set_option linter.unusedVariables false
set_option linter.unusedSimpArgs false
set_option linter.unusedSectionVars false
open Go Go.Z Go.Z.Gra
structure Fwd (E : Ed) (n : Nat) (out : List Int) : Prop where
  nd : out.Nodup
  rng : ∀ x ∈ out, 0 ≤ x ∧ x < n
  pre : ∀ j (h : j < out.length), ∀ u, (u, out[j]) ∈ E → u ∈ out.take j
theorem Fwd.nil (E : Ed) (n : Nat) : Fwd E n [] := ⟨.nil, fun x h => absurd h List.not_mem_nil, fun j h => absurd h (Nat.not_lt_zero _)⟩
theorem Fwd.step {E : Ed} {n : Nat} (ho : EdOk n E) {out : List Int} (h : Fwd E n out) {v : Nat} (hl : leastP E n out = some v) : Fwd E n (out ++ [(v : Int)]) := by
  obtain ⟨h1, h2, -⟩ := least_some.1 hl
  obtain ⟨h3, h4⟩ := ready_iff.1 h2
  refine ⟨List.nodup_append.2 ⟨h.nd, List.pairwise_singleton .., fun a ha b hb e => ?_⟩, fun x hx => ?_, fun j hj u hu => ?_⟩
  · rw [List.mem_singleton.1 hb] at e; rw [e] at ha; exact h3 ha
  · rcases List.mem_append.1 hx with e | e
    · exact h.rng x e
    · rw [List.mem_singleton.1 e]; omega
  · rw [List.length_append, List.length_singleton] at hj
    by_cases e : j < out.length
    · rw [List.getElem_append_left e] at hu
      rw [List.take_append_of_le_length (by omega)]
      exact h.pre j e u hu
    · have hje : j = out.length := by omega
      subst hje
      rw [List.getElem_append_right (Nat.le_refl _)] at hu
      simp only [Nat.sub_self, List.getElem_cons_zero] at hu
      rw [List.take_left]
      have hun := (ho _ hu).1
      dsimp only at hun
      by_cases hm : u ∈ out
      · exact hm
      · exfalso
        unfold pend at h4
        have := List.countP_eq_zero.1 h4 u.toNat (List.mem_range.2 (by omega))
        rw [decide_eq_true_iff] at this
        refine this ?_
        rw [show ((u.toNat : Nat) : Int) = u by omega]
        exact ⟨hm, hu⟩
theorem goP_fwd {E : Ed} {n : Nat} (ho : EdOk n E) : ∀ (k : Nat) (out : List Int), Fwd E n out → Fwd E n (goP E n k out)
  | 0, out, h => h
  | k + 1, out, h => by
    unfold goP
    split
    · exact h
    · rename_i v hl
      exact goP_fwd ho k _ (h.step ho hl)
theorem goP_stuck {E : Ed} {n : Nat} : ∀ (k : Nat) (out : List Int), (goP E n k out).length < k + out.length → leastP E n (goP E n k out) = none
  | 0, out, h => by unfold goP at h; omega
  | k + 1, out, h => by
    unfold goP at h ⊢
    split
    · rename_i hl; exact hl
    · rename_i v hl
      rw [hl] at h
      dsimp only at h
      refine goP_stuck k _ ?_
      rw [List.length_append, List.length_singleton]; omega
theorem Fwd.len {E : Ed} {n : Nat} {out : List Int} (h : Fwd E n out) : out.length ≤ n := by
  have := List.Nodup.length_le_of_subset h.nd (l₂ := (List.range n).map fun u : Nat => (u : Int)) fun x hx => by
    have := h.rng x hx
    exact List.mem_map.2 ⟨x.toNat, List.mem_range.2 (by omega), by omega⟩
  simpa using this
theorem Fwd.all {E : Ed} {n : Nat} {out : List Int} (h : Fwd E n out) (hl : out.length = n) (v : Nat) (hv : v < n) : (v : Int) ∈ out := by
  by_cases hm : (v : Int) ∈ out
  · exact hm
  · exfalso
    have := List.Nodup.length_le_of_subset (l₁ := (v : Int) :: out) (List.nodup_cons.2 ⟨hm, h.nd⟩) (l₂ := (List.range n).map fun u : Nat => (u : Int)) fun x hx => by
      have : 0 ≤ x ∧ x < n := by
        rcases List.mem_cons.1 hx with e | e
        · rw [e]; omega
        · exact h.rng x e
      exact List.mem_map.2 ⟨x.toNat, List.mem_range.2 (by omega), by omega⟩
    rw [List.length_cons, List.length_map, List.length_range] at this
    omega
theorem Fwd.edge {E : Ed} {n : Nat} (ho : EdOk n E) {out : List Int} (h : Fwd E n out) (hl : out.length = n) {u w : Int} (he : (u, w) ∈ E) : out.idxOf u < out.idxOf w ∧ out.idxOf w < out.length := by
  have hw := (ho _ he).2
  dsimp only at hw
  have hm := h.all hl w.toNat (by omega)
  rw [show ((w.toNat : Nat) : Int) = w by omega] at hm
  have hj := List.idxOf_lt_length_iff.2 hm
  have hu := h.pre (out.idxOf w) hj u (by rw [List.getElem_idxOf]; exact he)
  obtain ⟨i, hi, e⟩ := List.mem_take_iff_getElem.1 hu
  have := List.Nodup.idxOf_getElem h.nd i (by omega)
  rw [e] at this
  omega
theorem Fwd.acyclic {E : Ed} {n : Nat} (ho : EdOk n E) {out : List Int} (h : Fwd E n out) (hl : out.length = n) : cycleP E n = [] := by
  by_cases hc : cycleP E n = []
  · exact hc
  · exfalso
    obtain ⟨v, p, -, -, hp, -, -⟩ := (cycleP_cyc ho hc).ex
    have : ∀ (p : List Int) (a : Int), Cyc E v a p → out.idxOf a < out.idxOf (v : Int) := by
      intro p
      induction p with
      | nil => intro a ha; exact (h.edge ho hl ha).1
      | cons w p ih =>
        intro a ha
        have h1 := (h.edge ho hl ha.1).1
        have h2 := ih w ha.2
        omega
    have := this p v hp
    omega
/-- u reaches t through vertices that are not less than t -/
inductive Wk (E : Ed) (t : Int) : Int → Prop
  | refl : Wk E t t
  | step {u w : Int} : t ≤ u → (u, w) ∈ E → Wk E t w → Wk E t u
theorem Wk.pt {E : Ed} {t u : Int} (h : Wk E t u) : ∃ k, PT E t k u := by
  induction h with
  | refl => exact ⟨0, rfl⟩
  | @step u w h1 h2 _ ih =>
    obtain ⟨k, hk⟩ := ih
    by_cases e : u = t
    · exact ⟨0, e⟩
    · exact ⟨k + 1, by omega, w, h2, hk⟩
theorem argmin (f : Nat → Nat) : ∀ d, ∃ a, a ≤ d ∧ ∀ m, m ≤ d → f a ≤ f m
  | 0 => ⟨0, Nat.le_refl _, fun m hm => by rw [show m = 0 by omega]; exact Nat.le_refl _⟩
  | d + 1 => by
    obtain ⟨a, h1, h2⟩ := argmin f d
    by_cases e : f a ≤ f (d + 1)
    · refine ⟨a, by omega, fun m hm => ?_⟩
      by_cases g : m ≤ d
      · exact h2 m g
      · rw [show m = d + 1 by omega]; exact e
    · refine ⟨d + 1, Nat.le_refl _, fun m hm => ?_⟩
      by_cases g : m ≤ d
      · have := h2 m g; omega
      · rw [show m = d + 1 by omega]; exact Nat.le_refl _
theorem loop_cyc {E : Ed} {x : Nat → Nat} (he : ∀ m, ((x (m + 1) : Int), (x m : Int)) ∈ E) {i j : Nat} (hij : i < j) (hx : x i = x j) : ∃ (v : Nat) (w : Int) (k : Nat), ((v : Int), w) ∈ E ∧ PT E v k w := by
  obtain ⟨a0, h1, h2⟩ := argmin (fun m => x (i + m)) (j - 1 - i)
  obtain ⟨a, ha⟩ : ∃ a, a = i + a0 := ⟨_, rfl⟩
  have hmin : ∀ m, i ≤ m → m ≤ j → x a ≤ x m := fun m hm1 hm2 => by
    by_cases e : m = j
    · have := h2 0 (Nat.zero_le _)
      rw [Nat.add_zero, ← ha] at this
      rw [e, ← hx]; exact this
    · have := h2 (m - i) (by omega)
      rw [← ha, show i + (m - i) = m by omega] at this
      exact this
  have seg : ∀ d p, i ≤ p → p + d ≤ j → Wk E (x a) (x p) → Wk E (x a) (x (p + d)) := by
    intro d
    induction d with
    | zero => intro p _ _ h; exact h
    | succ d ih =>
      intro p hp1 hp2 h
      have := ih p hp1 (by omega) h
      exact .step (by have := hmin (p + (d + 1)) (by omega) (by omega); omega) (he (p + d)) this
  have hj : Wk E (x a) (x j) := by
    have := seg (j - a) a (by omega) (by omega) .refl
    rwa [show a + (j - a) = j by omega] at this
  by_cases e : a = i
  · have hw := seg (j - 1 - a) a (by omega) (by omega) .refl
    rw [show a + (j - 1 - a) = j - 1 by omega] at hw
    obtain ⟨k, hk⟩ := hw.pt
    have hed := he (j - 1)
    rw [show j - 1 + 1 = j by omega, ← hx, ← e] at hed
    exact ⟨x a, _, k, hed, hk⟩
  · rw [← hx] at hj
    have hw := seg (a - 1 - i) i (Nat.le_refl _) (by omega) hj
    rw [show i + (a - 1 - i) = a - 1 by omega] at hw
    obtain ⟨k, hk⟩ := hw.pt
    have hed := he (a - 1)
    rw [show a - 1 + 1 = a by omega] at hed
    exact ⟨x a, _, k, hed, hk⟩
def itF (f : Nat → Nat) (v : Nat) : Nat → Nat
  | 0 => v
  | m + 1 => f (itF f v m)
theorem stuck_cyc {E : Ed} {n : Nat} {out : List Int} (hl : leastP E n out = none) {v0 : Nat} (hv0 : v0 < n) (hm0 : (v0 : Int) ∉ out) : ∃ (v : Nat) (w : Int) (k : Nat), ((v : Int), w) ∈ E ∧ PT E v k w := by
  have hn := least_none.1 hl
  have hp : ∀ v : Nat, ∃ u : Nat, v < n → (v : Int) ∉ out → u < n ∧ (u : Int) ∉ out ∧ ((u : Int), (v : Int)) ∈ E := fun v => by
    by_cases h : v < n ∧ (v : Int) ∉ out
    · have h0 : pend E n out v ≠ 0 := fun e => by
        have h1 := hn v h.1
        have h2 := ready_iff.2 ⟨h.2, e⟩
        rw [h2] at h1; cases h1
      obtain ⟨u, h1, h2⟩ := List.countP_pos_iff.1 (Nat.pos_of_ne_zero h0)
      have h2 := of_decide_eq_true h2
      exact ⟨u, fun _ _ => ⟨List.mem_range.1 h1, h2.1, h2.2⟩⟩
    · exact ⟨0, fun a b => absurd ⟨a, b⟩ h⟩
  obtain ⟨f, hf⟩ : ∃ f : Nat → Nat, ∀ v, v < n → (v : Int) ∉ out → f v < n ∧ (f v : Int) ∉ out ∧ ((f v : Int), (v : Int)) ∈ E := ⟨fun v => Classical.choose (hp v), fun v => Classical.choose_spec (hp v)⟩
  have hi : ∀ m, itF f v0 m < n ∧ (itF f v0 m : Int) ∉ out := by
    intro m
    induction m with
    | zero => exact ⟨hv0, hm0⟩
    | succ m ih => have := hf _ ih.1 ih.2; exact ⟨this.1, this.2.1⟩
  have he : ∀ m, ((itF f v0 (m + 1) : Int), (itF f v0 m : Int)) ∈ E := fun m => (hf _ (hi m).1 (hi m).2).2.2
  have hrep : ¬ ((List.range (n + 1)).map (itF f v0)).Nodup := fun hnd => by
    have := List.Nodup.length_le_of_subset hnd (l₂ := List.range n) fun x hx => by
      obtain ⟨m, -, rfl⟩ := List.mem_map.1 hx
      exact List.mem_range.2 (hi m).1
    rw [List.length_map, List.length_range, List.length_range] at this
    omega
  have hex : ∃ i j, i < j ∧ itF f v0 i = itF f v0 j := Classical.byContradiction fun hno => hrep (by
    rw [List.Nodup, List.pairwise_map]
    exact List.pairwise_lt_range.imp fun {a b} hab e => hno ⟨a, b, hab, e⟩)
  obtain ⟨i, j, hij, hx⟩ := hex
  exact loop_cyc he hij hx
theorem order_fwd {E : Ed} {n : Nat} (ho : EdOk n E) : Fwd E n (orderP E n) := goP_fwd ho n [] (Fwd.nil E n)
theorem order_cycle {E : Ed} {n : Nat} (ho : EdOk n E) : (orderP E n).length < n ↔ cycleP E n ≠ [] := by
  have hF := order_fwd ho
  constructor
  · intro h
    have hl := goP_stuck (E := E) (n := n) n [] h
    have hex : ∃ v : Nat, v < n ∧ (v : Int) ∉ orderP E n := Classical.byContradiction fun hno => by
      have := List.Nodup.length_le_of_subset (l₁ := (List.range n).map fun u : Nat => (u : Int)) (l₂ := orderP E n) (by
        rw [List.Nodup, List.pairwise_map]
        exact List.pairwise_lt_range.imp fun h => by omega) fun x hx => by
          obtain ⟨u, hu, rfl⟩ := List.mem_map.1 hx
          exact Classical.byContradiction fun hm => hno ⟨u, List.mem_range.1 hu, hm⟩
      rw [List.length_map, List.length_range] at this
      omega
    obtain ⟨v0, h1, h2⟩ := hex
    obtain ⟨v, w, k, h3, h4⟩ := stuck_cyc hl h1 h2
    exact cycleP_some ho h3 h4
  · intro h
    have := hF.len
    by_cases e : (orderP E n).length = n
    · exact absurd (hF.acyclic ho e) h
    · omega
end Go.Z.Gr
