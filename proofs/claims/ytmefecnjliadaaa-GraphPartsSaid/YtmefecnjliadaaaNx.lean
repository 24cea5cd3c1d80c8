/- Chapter 4: what Cycle returns is a cycle; its vertices are in one part. Conditions: none. -/
import Derived.Test.YtmefecnjliadaaaNw
namespace Go.Z
set_option maxRecDepth 8000
set_option linter.unusedVariables false
set_option linter.unusedSimpArgs false
set_option linter.unusedSectionVars false
open Go
section
variable {P : Program} {M : Mx} {n : Nat} {L : Fr} {H : List Assn} {dd : Option Tmp} {ty t tz : TypeId} {ps : String} {af : Array Edge} {gd : Option (Nat × Bool)} {x y : Operand} {k : IntKind} {i j r : Int}
theorem p_remE (h1 : ev L x = some (.int k i)) (h2 : ev L y = some (.int k j)) (hj : 0 < j) (hi : 0 ≤ i) (e : i % j = r) : Pur P M n L H ⟨dd, .binOp .rem t x y tz, ty, ps, af, gd⟩ (.int k r) := by
  subst e; exact p_remn h1 h2 hj hi
end
end Go.Z
namespace Go.Z.Gr
set_option maxRecDepth 8000
set_option linter.unusedVariables false
set_option linter.unusedSimpArgs false
set_option linter.unusedSectionVars false
open Go Go.Z Go.Z.Gra
def nxt (l : List Int) (i : Nat) : Nat := if i + 1 < l.length then i + 1 else 0
theorem nxt_lt {l : List Int} {i : Nat} (h : i < l.length) : nxt l i < l.length := by unfold nxt; split <;> omega
theorem nxt_mod {l : List Int} {i : Nat} (h : i < l.length) : ((i : Int) + 1) % (l.length : Int) = (nxt l i : Int) := by
  unfold nxt
  by_cases e : i + 1 < l.length
  · rw [if_pos e, Int.emod_eq_of_lt (by omega) (by omega)]; omega
  · rw [if_neg e, show (i : Int) + 1 = l.length by omega, Int.emod_self]; rfl
theorem cyc_edge {E : Ed} {v : Int} : ∀ (p : List Int) (a : Int), Cyc E v a p → ∀ i (h : i < (a :: p).length), ((a :: p)[i], if h2 : i + 1 < (a :: p).length then (a :: p)[i + 1] else v) ∈ E
  | [], a, hc, i, h => by
    have : i = 0 := by simpa using h
    subst this
    exact hc
  | w :: p, a, hc, 0, h => by rw [dif_pos (by simp)]; exact hc.1
  | w :: p, a, hc, i + 1, h => by
    have ih := cyc_edge p w hc.2 i (by simpa using h)
    by_cases g : i + 1 < (w :: p).length
    · rw [dif_pos g] at ih
      rw [dif_pos (by simpa using g)]
      exact ih
    · rw [dif_neg g] at ih
      rw [dif_neg (by simpa using g)]
      exact ih
theorem cyc_rc {E : Ed} {v : Int} : ∀ (p : List Int) (a : Int), Cyc E v a p → (∀ w ∈ p, Rc E a w) ∧ ∀ w ∈ a :: p, Rc E w v
  | [], a, hc => ⟨fun w h => absurd h List.not_mem_nil, fun w h => by rw [List.mem_singleton.1 h]; exact .step .refl hc⟩
  | x :: p, a, hc => by
    obtain ⟨h1, h2⟩ := cyc_rc p x hc.2
    have hx : Rc E a x := .step .refl hc.1
    refine ⟨fun w h => ?_, fun w h => ?_⟩
    · rcases List.mem_cons.1 h with e | e
      · rw [e]; exact hx
      · exact hx.trans (h1 w e)
    · rcases List.mem_cons.1 h with e | e
      · rw [e]; exact hx.trans (h2 x List.mem_cons_self)
      · exact h2 w e
/-- what the law asks of a cycle -/
structure RoundOk (E : Ed) (l : List Int) (ps : List (List Int)) : Prop where
  pos : 0 < l.length
  ge : ∀ i (h : i < l.length), l[0] ≤ l[i]
  ne : ∀ i (h : i < l.length), 0 < i → l[i] ≠ l[0]
  ed : ∀ i (h : i < l.length), (l[i], l[nxt l i]'(nxt_lt h)) ∈ E
  some : ∃ i, ∃ h : i < ps.length, l[0] ∈ ps[i]
  full : ∀ p ∈ ps, 0 < p.length
  head : ∀ p ∈ ps, ∀ h : 0 < p.length, l[0] ∈ p → p[0] ≤ l[0]
  one : ∀ p ∈ ps, l[0] ∈ p → ∀ w ∈ l, w ∈ p
open Classical in
theorem parts_mem {E : Ed} {n : Nat} {p : List Int} (h : p ∈ partsP E n) : ∃ v : Nat, v < n ∧ (∀ w : Int, w ∈ p ↔ ∃ u : Nat, w = u ∧ u < n ∧ Rc E v u ∧ Rc E u v) ∧ p.Pairwise (· < ·) := by
  unfold partsP partsC at h
  rw [List.map_map] at h
  obtain ⟨v, h1, rfl⟩ := List.mem_map.1 h
  have hv := List.mem_range.1 (List.mem_filter.1 h1).1
  refine ⟨v, hv, fun w => ?_, ?_⟩
  · show w ∈ List.map (fun x : Nat => (x : Int)) (List.filter _ (List.range n)) ↔ _
    rw [List.mem_map]
    constructor
    · rintro ⟨u, h2, rfl⟩
      rw [List.mem_filter, List.mem_range, decide_eq_true_iff] at h2
      exact ⟨u, rfl, h2.1, h2.2⟩
    · rintro ⟨u, rfl, h2, h3⟩
      exact ⟨u, by rw [List.mem_filter, List.mem_range, decide_eq_true_iff]; exact ⟨h2, h3⟩, rfl⟩
  · show List.Pairwise (· < ·) (List.map (fun x : Nat => (x : Int)) (List.filter _ (List.range n)))
    rw [List.pairwise_map]
    exact (List.pairwise_lt_range.filter _).imp fun h => by omega
open Classical in
theorem parts_ex {E : Ed} {n u : Nat} (hu : u < n) : ∃ p ∈ partsP E n, (u : Int) ∈ p := by
  have hl : ∀ v, v < n → ∃ l, l < n ∧ (∀ x, x < l → ¬ (Rc E x l ∧ Rc E l x)) ∧ Rc E l v ∧ Rc E v l := by
    intro v
    induction v using Nat.strongRecOn with
    | ind v ih =>
      intro hv
      by_cases g : ∀ x : Nat, x < v → ¬ (Rc E x v ∧ Rc E v x)
      · exact ⟨v, hv, g, .refl, .refl⟩
      · rw [Classical.not_forall] at g
        obtain ⟨x, hx⟩ := g
        rw [Classical.not_imp, Classical.not_not] at hx
        obtain ⟨l, a, b, c, d⟩ := ih x hx.1 (by omega)
        exact ⟨l, a, b, c.trans hx.2.1, hx.2.2.trans d⟩
  obtain ⟨l, h1, h2, h3, h4⟩ := hl u hu
  unfold partsP partsC
  rw [List.map_map]
  refine ⟨_, List.mem_map.2 ⟨l, ?_, rfl⟩, ?_⟩
  · rw [List.mem_filter, List.mem_range, decide_eq_true_iff]; exact ⟨h1, h2⟩
  · refine List.mem_map.2 ⟨u, ?_, rfl⟩
    rw [List.mem_filter, List.mem_range, decide_eq_true_iff]
    exact ⟨hu, h3, h4⟩
theorem round_ok {E : Ed} {n : Nat} (ho : EdOk n E) {l : List Int} (h : CycOk E n l) : RoundOk E l (partsP E n) := by
  obtain ⟨v, p, rfl, hv, hc, hp, hlen⟩ := h.ex
  obtain ⟨r1, r2⟩ := cyc_rc p v hc
  have hge : ∀ i (h : i < ((v : Int) :: p).length), (v : Int) ≤ ((v : Int) :: p)[i] := fun i h => by
    rcases List.mem_cons.1 (List.getElem_mem h) with e | e
    · rw [e]; exact Int.le_refl _
    · have := hp _ e; omega
  have hall : ∀ w ∈ (v : Int) :: p, ∃ u : Nat, w = u ∧ u < n ∧ Rc E v u ∧ Rc E u v := fun w hw => by
    have h1 : Rc E v w := by
      rcases List.mem_cons.1 hw with e | e
      · rw [e]; exact .refl
      · exact r1 w e
    have h2 := Rc.range ho (s := (v : Int)) ⟨by omega, by omega⟩ h1
    have h3 := r2 w hw
    obtain ⟨u, rfl⟩ : ∃ u : Nat, w = u := ⟨w.toNat, by omega⟩
    exact ⟨u, rfl, by omega, h1, h3⟩
  refine ⟨by simp, hge, fun i h h0 => ?_, fun i h => ?_, ?_, fun q hq => ?_, fun q hq h0 hm => ?_, fun q hq hm w hw => ?_⟩
  · obtain ⟨i, rfl⟩ : ∃ i', i = i' + 1 := ⟨i - 1, by omega⟩
    have := hp _ (List.getElem_mem (show i < p.length by simpa using h))
    simp only [List.getElem_cons_succ, List.getElem_cons_zero]
    omega
  · have := cyc_edge p v hc i h
    by_cases g : i + 1 < ((v : Int) :: p).length
    · rw [dif_pos g] at this
      have e : nxt ((v : Int) :: p) i = i + 1 := by unfold nxt; rw [if_pos g]
      simp only [e]; exact this
    · rw [dif_neg g] at this
      have e : nxt ((v : Int) :: p) i = 0 := by unfold nxt; rw [if_neg g]
      simp only [e]; exact this
  · obtain ⟨q, h1, h2⟩ := parts_ex (E := E) hv
    obtain ⟨i, hi, rfl⟩ := List.getElem_of_mem h1
    exact ⟨i, hi, h2⟩
  · obtain ⟨x, x1, x2, -⟩ := parts_mem hq
    exact List.length_pos_of_mem ((x2 x).2 ⟨x, rfl, x1, .refl, .refl⟩)
  · obtain ⟨x, x1, x2, x3⟩ := parts_mem hq
    obtain ⟨i, hi, e⟩ := List.getElem_of_mem hm
    rcases Nat.eq_zero_or_pos i with g | g
    · subst g; rw [e]; exact Int.le_refl _
    · have := (List.pairwise_iff_getElem.1 x3) 0 i h0 hi g
      rw [e] at this
      omega
  · obtain ⟨x, x1, x2, -⟩ := parts_mem hq
    obtain ⟨u, e, -, u1, u2⟩ := (x2 _).1 hm
    obtain ⟨y, e2, y0, y1, y2⟩ := hall w hw
    have e' : (v : Int) = u := e
    rw [← e'] at u1 u2
    exact (x2 w).2 ⟨y, e2, y0, u1.trans y1, y2.trans u2⟩
theorem round_cases {n : Int} {E : Ed} : ((cycleA n E).1 = [] ∧ (cycleA n E).2 ≠ 0) ∨ (cycleA n E).2 = 0 ∧ (cycleA n E).1.length ≤ n ∧ RoundOk E (cycleA n E).1 (partsA n E).1 := by
  unfold cycleA partsA
  by_cases hv : validP n E [] = true
  · rw [if_pos hv, if_pos hv]
    have hn : 0 ≤ n ∧ n ≤ 4096 := by
      have := hv
      unfold validP at this
      rw [Bool.and_eq_true, Bool.and_eq_true] at this
      exact of_decide_eq_true this.1.1
    obtain ⟨m, rfl⟩ : ∃ m : Nat, n = m := ⟨n.toNat, by omega⟩
    obtain ⟨hm, ho⟩ := valid_edok hv
    rw [Int.toNat_natCast]
    by_cases h : cycleP E m = []
    · rw [if_pos h]; exact .inl ⟨rfl, by decide⟩
    · rw [if_neg h]
      have hc := cycleP_cyc ho h
      refine .inr ⟨rfl, ?_, round_ok ho hc⟩
      obtain ⟨v, p, e, -, -, -, h5⟩ := hc.ex
      show ((cycleP E m).length : Int) ≤ m
      omega
  · rw [if_neg hv, if_neg hv]
    exact .inl ⟨rfl, by decide⟩
end Go.Z.Gr
