/- Chapter 4, plain: the chapter's examples. No program in sight. Conditions: none. -/
import Derived.Test.YtmefecnjliadaaaNp
import Derived.Test.YtmefecnjliadaaaNf
import Derived.Test.YtmefecnjliadaaaNh
namespace Go.Z.Gr
set_option maxRecDepth 8000
set_option linter.unusedVariables false
set_option linter.unusedSimpArgs false
set_option linter.unusedSectionVars false
open Go Go.Z Go.Z.Gra
/-- successors, by a test -/
def nbT (n : Nat) (E : Ed) (v : Int) : List Int := ((List.range n).map fun u : Nat => (u : Int)).filter fun w => decide ((v, w) ∈ E)
theorem nbP_T {n : Nat} {E : Ed} (ho : EdOk n E) : nbP E = nbT n E := by
  funext v
  refine sorted_eq (nbP_sorted E v) ?_ fun x => ?_
  · unfold nbT
    refine List.Pairwise.filter _ ?_
    rw [List.pairwise_map]
    exact List.pairwise_lt_range.imp fun h => by omega
  · rw [nbP_mem]
    unfold nbT
    rw [List.mem_filter, decide_eq_true_iff]
    constructor
    · intro h
      have := (ho _ h).2
      dsimp only at this
      exact ⟨List.mem_map.2 ⟨x.toNat, List.mem_range.2 (by omega), by omega⟩, h⟩
    · exact fun h => h.2
def stepT (E : Ed) (n : Nat) (best : List Int) (v : Nat) : List Int :=
  let c := aroundM (nbT n E) (distP E n v) v (if best = [] then (n : Int) + 1 else best.length)
  if c = [] then best else c
theorem cycleP_T {n : Nat} {E : Ed} (ho : EdOk n E) : cycleP E n = (List.range n).foldl (stepT E n) [] := by
  unfold cycleP
  congr 1
  funext b v
  unfold stepC stepT
  rw [nbP_T ho]
def ex1 : Ed := [(2, 0), (0, 3)]
def ex2 : Ed := [(0, 1), (1, 2), (2, 0), (4, 3), (3, 4)]
def ex3 : Ed := [(1, 2)]
def ex4 : Ed := [(0, 2), (2, 0), (2, 1)]
theorem ex1_order : orderA 4 ex1 = ([1, 2, 0, 3], 0) := by decide
theorem ex2_cycle : cycleA 5 ex2 = ([3, 4], 0) := by
  unfold cycleA
  rw [if_pos (by decide), show (5 : Int).toNat = 5 from rfl, cycleP_T (valid_edok (n := 5) (ms := []) (by decide)).2]
  decide
theorem ex5_cycle : cycleA 3 [] = ([], 8) := by
  unfold cycleA
  rw [if_pos (by decide), show (3 : Int).toNat = 3 from rfl, cycleP_T (valid_edok (n := 3) (ms := []) (by decide)).2]
  decide
theorem ex3_reach {xs : List Bool} {e : Int} (h : reachA 3 ex3 1 xs e) : xs = [false, true, true] ∧ e = 0 := by
  unfold reachA at h
  rw [if_pos (by decide)] at h
  refine ⟨h.2.unique ⟨rfl, fun u h0 h1 => ?_⟩, h.1⟩
  have h3 : (3 : Int).toNat = 3 := rfl
  rw [h3] at h1
  constructor
  · intro hg
    have : u = 1 ∨ u = 2 := by
      rcases (show u = 0 ∨ u = 1 ∨ u = 2 by omega) with e | e | e
      · subst e; exact absurd hg (by decide)
      · exact .inl e
      · exact .inr e
    rcases this with e | e
    · subst e; exact .refl
    · subst e; exact .step .refl (by decide)
  · intro hr
    have : u = 1 ∨ u = 2 := Rc.closed (p := fun v => v = 1 ∨ v = 2) (.inl rfl) (fun a b _ hm => by
      simp only [ex3, List.mem_singleton, Prod.mk.injEq] at hm; exact .inr hm.2) hr
    rcases this with e | e
    · subst e; rfl
    · subst e; rfl
theorem ex4_rc {u v : Nat} : (Rc ex4 u v ∧ Rc ex4 v u) ↔ (u = v ∨ (u = 0 ∧ v = 2) ∨ (u = 2 ∧ v = 0)) := by
  have hm : ∀ {a b : Int}, (a, b) ∈ ex4 ↔ (a = 0 ∧ b = 2) ∨ (a = 2 ∧ b = 0) ∨ (a = 2 ∧ b = 1) := fun {a b} => by
    simp only [ex4, List.mem_cons, List.not_mem_nil, or_false, Prod.mk.injEq]
  have hc : ∀ {a b : Int}, Rc ex4 a b → a = b ∨ ((a = 0 ∨ a = 2) ∧ (b = 0 ∨ b = 1 ∨ b = 2)) := fun {a b} h => by
    refine Rc.closed (p := fun b => a = b ∨ ((a = 0 ∨ a = 2) ∧ (b = 0 ∨ b = 1 ∨ b = 2))) (.inl rfl) (fun x y hx hxy => ?_) h
    have := hm.1 hxy
    omega
  have e02 : Rc ex4 0 2 := .step .refl (by decide)
  have e20 : Rc ex4 2 0 := .step .refl (by decide)
  constructor
  · rintro ⟨h1, h2⟩
    have a1 := hc h1
    have a2 := hc h2
    omega
  · rintro (h | ⟨h1, h2⟩ | ⟨h1, h2⟩)
    · subst h; exact ⟨.refl, .refl⟩
    · subst h1 h2; exact ⟨e02, e20⟩
    · subst h1 h2; exact ⟨e20, e02⟩
open Classical in
theorem partsP_dec {E : Ed} {n : Nat} {R : Nat → Nat → Prop} [∀ u v, Decidable (R u v)] (h : ∀ u v, u < n → v < n → ((Rc E u v ∧ Rc E v u) ↔ R u v)) : partsP E n = (partsC n R).map fun l : List Nat => l.map fun x : Nat => (x : Int) := by
  unfold partsP
  congr 1
  exact partsC_congr h
theorem ex4_parts : partsA 4 ex4 = ([[0, 2], [1], [3]], 0) := by
  unfold partsA
  rw [if_pos (by decide), partsP_dec (R := fun u v : Nat => u = v ∨ (u = 0 ∧ v = 2) ∨ (u = 2 ∧ v = 0)) (fun u v _ _ => ex4_rc)]
  decide
theorem edB {ρ : Nat → Obj → Prop} {b : Nat} {E : Ed} {T : TypeId} {fz : Nat × Nat} (h : ρ b (.cells (flatE E).toArray T fz)) : EdR ρ (some ⟨b, 0, none⟩) E :=
  ⟨flatE_len E, b, 0, flatE E, T, fz, fun _ => ⟨rfl, h, fun j v hj => by rw [Nat.zero_add]; exact hj⟩⟩
theorem edNil {ρ : Nat → Obj → Prop} : EdR ρ none [] := ⟨rfl, 0, 0, [], 0, (0, 0), fun h => absurd h (by decide)⟩
theorem rslB {ρ : Nat → Obj → Prop} {b : Nat} {l : List Int} {T : TypeId} {fz : Nat × Nat} (h : ρ b (.cells (l.map encI).toArray T fz)) : RSl ρ 1 (some ⟨b, 0, none⟩) l.length (l.map encI) :=
  ⟨by simp, b, 0, l.map encI, T, fz, fun _ => ⟨rfl, h, fun j v hj => by rw [Nat.zero_add]; exact hj⟩⟩
end Go.Z.Gr
