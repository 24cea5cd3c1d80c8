/- Chapter 4, plain: the least order step by step; what the heap holds. No program in sight. Conditions: none. -/
import Derived.Test.YtmefecnjliadaaaNa
import Derived.Test.YtmefecnjliadaaaNc
namespace Go.Z.Gr
set_option maxRecDepth 8000
set_option linter.unusedVariables false
set_option linter.unusedSimpArgs false
set_option linter.unusedSectionVars false
open Go.Lib
def allE (n : Nat) : Ed := (List.range n).map fun u : Nat => ((u : Int), (0 : Int))
theorem allE_mem {n u : Nat} (h : u < n) : ((u : Int), (0 : Int)) ∈ allE n := List.mem_map.2 ⟨u, List.mem_range.2 h, rfl⟩
/-- how many vertices are not out yet -/
def un (n : Nat) (out : List Int) : Nat := pend (allE n) n out 0
theorem un_step {n : Nat} {out : List Int} {v : Nat} (hv : v < n) (ho : (v : Int) ∉ out) : un n out = un n (out ++ [(v : Int)]) + 1 := by
  unfold un
  rw [pend_step hv ho, if_pos (allE_mem hv)]
theorem un_nil (n : Nat) : un n [] = n := by
  unfold un pend
  rw [List.countP_eq_length.2]
  · exact List.length_range
  · intro u hu
    exact decide_eq_true ⟨List.not_mem_nil, allE_mem (List.mem_range.1 hu)⟩
theorem ready_iff {E : Ed} {n : Nat} {out : List Int} {v : Nat} : ready E n out v = true ↔ (v : Int) ∉ out ∧ pend E n out v = 0 := by unfold ready; exact decide_eq_true_iff
theorem least_some {E : Ed} {n : Nat} {out : List Int} {v : Nat} : leastP E n out = some v ↔ v < n ∧ ready E n out v = true ∧ ∀ u, u < v → ready E n out u = false := by
  unfold leastP
  rw [List.find?_range_eq_some]
  constructor
  · rintro ⟨h1, h2, h3⟩
    exact ⟨List.mem_range.1 h2, h1, fun u hu => by simpa using h3 u hu⟩
  · rintro ⟨h1, h2, h3⟩
    exact ⟨h2, List.mem_range.2 h1, fun u hu => by simpa using h3 u hu⟩
theorem least_none {E : Ed} {n : Nat} {out : List Int} : leastP E n out = none ↔ ∀ v, v < n → ready E n out v = false := by
  unfold leastP
  rw [List.find?_eq_none]
  exact ⟨fun h v hv => by simpa using h v (List.mem_range.2 hv), fun h v hv => by simpa using h v (List.mem_range.1 hv)⟩
structure OI (E : Ed) (n : Nat) (out : List Int) : Prop where
  un : un n out + out.length = n
  go : goP E n (n - out.length) out = orderP E n
  pre : ∀ w : Nat, w < n → (w : Int) ∈ out → pend E n out w = 0
theorem OI.start (E : Ed) (n : Nat) : OI E n [] := ⟨by rw [un_nil]; rfl, rfl, fun w _ h => absurd h List.not_mem_nil⟩
theorem OI.step {E : Ed} {n : Nat} {out : List Int} {v : Nat} (h : OI E n out) (hl : leastP E n out = some v) : OI E n (out ++ [(v : Int)]) := by
  obtain ⟨h1, h2, h3⟩ := least_some.1 hl
  obtain ⟨h4, h5⟩ := ready_iff.1 h2
  have hu := un_step h1 h4
  have h0 := h.un
  refine ⟨by rw [List.length_append, List.length_singleton]; omega, ?_, fun w hw hm => ?_⟩
  · rw [← h.go, show n - out.length = (n - (out ++ [(v : Int)]).length) + 1 by rw [List.length_append, List.length_singleton]; omega]
    conv => rhs; unfold goP
    rw [hl]
  · have hs := pend_step (E := E) h1 h4 (w : Int)
    rcases List.mem_append.1 hm with e | e
    · have := h.pre w hw e; omega
    · rw [List.mem_singleton.1 e] at hs ⊢; omega
theorem OI.none {E : Ed} {n : Nat} {out : List Int} (h : OI E n out) (hl : leastP E n out = none) : orderP E n = out := by
  rw [← h.go]
  cases n - out.length with
  | zero => rfl
  | succ k => unfold goP; rw [hl]
theorem OI.full {E : Ed} {n : Nat} {out : List Int} (h : OI E n out) (hl : out.length = n) : orderP E n = out := by
  rw [← h.go, hl, Nat.sub_self]; rfl
theorem OI.lt {E : Ed} {n : Nat} {out : List Int} {v : Nat} (h : OI E n out) (hv : v < n) (ho : (v : Int) ∉ out) : out.length < n := by
  have := un_step hv ho
  have := h.un
  omega
/-- the heap holds the vertices that wait for none -/
def HI (n : Nat) (out : List Int) (g : Nat → Nat) (h : List Int) : Prop := h.Nodup ∧ ∀ x, x ∈ h ↔ ∃ u : Nat, u < n ∧ x = u ∧ (u : Int) ∉ out ∧ g u = 0
theorem HI.len {n : Nat} {out : List Int} {g : Nat → Nat} {h : List Int} (hi : HI n out g h) : h.length ≤ n := by
  have h1 : h.length ≤ ((List.range n).map fun u : Nat => (u : Int)).length := by
    refine List.Nodup.length_le_of_subset hi.1 fun x hx => ?_
    obtain ⟨u, h1, h2, -⟩ := (hi.2 x).1 hx
    exact List.mem_map.2 ⟨u, List.mem_range.2 h1, h2.symm⟩
  simpa using h1
/-- the heap's first is the least that is ready -/
theorem HI.min {E : Ed} {n : Nat} {out h : List Int} (hi : HI n out (fun u => pend E n out u) h) (hh : isHeap h h.length) (h0 : 0 < h.length) : ∃ v : Nat, gI h 0 = v ∧ leastP E n out = some v := by
  have hm : gI h 0 ∈ h := by rw [gI_at h0]; exact List.getElem_mem h0
  obtain ⟨v, h1, h2, h3, h4⟩ := (hi.2 _).1 hm
  refine ⟨v, h2, least_some.2 ⟨h1, ready_iff.2 ⟨h3, h4⟩, fun u hu => ?_⟩⟩
  cases e : ready E n out u with
  | false => rfl
  | true =>
    obtain ⟨e1, e2⟩ := ready_iff.1 e
    have hum := (hi.2 (u : Int)).2 ⟨u, by omega, rfl, e1, e2⟩
    obtain ⟨k, hk, hk2⟩ := List.getElem_of_mem hum
    have := heap_min hh k hk
    rw [gI_at hk, hk2] at this
    omega
theorem HI.none {E : Ed} {n : Nat} {out : List Int} (hi : HI n out (fun u => pend E n out u) []) : leastP E n out = none := by
  refine least_none.2 fun v hv => ?_
  cases e : ready E n out v with
  | false => rfl
  | true =>
    obtain ⟨e1, e2⟩ := ready_iff.1 e
    exact absurd ((hi.2 (v : Int)).2 ⟨v, hv, rfl, e1, e2⟩) List.not_mem_nil
/-- the least was taken out -/
theorem HI.pop {n v : Nat} {out h h' : List Int} {g : Nat → Nat} (hi : HI n out g h) (hp : ((v : Int) :: h').Perm h) : HI n (out ++ [(v : Int)]) g h' := by
  have hn := hp.nodup_iff.2 hi.1
  rw [List.nodup_cons] at hn
  refine ⟨hn.2, fun x => ?_⟩
  constructor
  · intro hx
    obtain ⟨u, h1, h2, h3, h4⟩ := (hi.2 x).1 (hp.mem_iff.1 (List.mem_cons_of_mem _ hx))
    refine ⟨u, h1, h2, ?_, h4⟩
    rw [List.mem_append, List.mem_singleton, not_or]
    exact ⟨h3, fun e => hn.1 (by rw [← e, ← h2]; exact hx)⟩
  · rintro ⟨u, h1, h2, h3, h4⟩
    rw [List.mem_append, List.mem_singleton, not_or] at h3
    rcases List.mem_cons.1 (hp.mem_iff.2 ((hi.2 x).2 ⟨u, h1, h2, h3.1, h4⟩)) with e | e
    · exact absurd (h2 ▸ e) h3.2
    · exact e
/-- one vertex waits for one less -/
def decG (g : Nat → Nat) (w : Nat) : Nat → Nat := fun u => if u = w then g u - 1 else g u
def incG (g : Nat → Nat) (w : Nat) : Nat → Nat := fun u => if u = w then g u + 1 else g u
theorem HI.skip {n w : Nat} {out h : List Int} {g : Nat → Nat} (hi : HI n out g h) (h1 : 1 < g w) : HI n out (decG g w) h := by
  refine ⟨hi.1, fun x => ?_⟩
  rw [hi.2]
  constructor <;> rintro ⟨u, a, b, c, d⟩ <;> refine ⟨u, a, b, c, ?_⟩ <;> unfold decG at * <;> by_cases e : u = w
  · subst e; omega
  · rw [if_neg e]; exact d
  · rw [if_pos e, e] at d; omega
  · rw [if_neg e] at d; exact d
theorem HI.push {n w : Nat} {out h h' : List Int} {g : Nat → Nat} (hi : HI n out g h) (h1 : g w = 1) (hw : w < n) (ho : (w : Int) ∉ out) (hp : h'.Perm (h ++ [(w : Int)])) : HI n out (decG g w) h' := by
  have hwh : (w : Int) ∉ h := fun hm => by
    obtain ⟨u, a, b, c, d⟩ := (hi.2 _).1 hm
    rw [show u = w by omega] at d; omega
  refine ⟨hp.nodup_iff.2 (List.nodup_append.2 ⟨hi.1, List.pairwise_singleton .., fun a ha b hb e => ?_⟩), fun x => ?_⟩
  · rw [List.mem_singleton.1 hb] at e; rw [e] at ha; exact hwh ha
  · rw [hp.mem_iff, List.mem_append, List.mem_singleton, hi.2]
    constructor
    · rintro (⟨u, a, b, c, d⟩ | e)
      · refine ⟨u, a, b, c, ?_⟩
        unfold decG
        by_cases e : u = w
        · subst e; omega
        · rw [if_neg e]; exact d
      · exact ⟨w, hw, e, ho, by unfold decG; rw [if_pos rfl, h1]⟩
    · rintro ⟨u, a, b, c, d⟩
      unfold decG at d
      by_cases e : u = w
      · subst e; exact .inr b
      · rw [if_neg e] at d; exact .inl ⟨u, a, b, c, d⟩
/-- the ready ones are gathered -/
theorem HI.first (n : Nat) (g : Nat → Nat) : HI n (List.replicate 0 0) g ((((List.range n).filter fun u => decide (g u = 0))).map fun u : Nat => (u : Int)) := by
  refine ⟨?_, fun x => ?_⟩
  · rw [List.Nodup, List.pairwise_map]
    exact (List.nodup_range.filter _).imp fun h e => h (by omega)
  · rw [List.mem_map]
    constructor
    · rintro ⟨u, h1, h2⟩
      rw [List.mem_filter, List.mem_range, decide_eq_true_iff] at h1
      exact ⟨u, h1.1, h2.symm, List.not_mem_nil, h1.2⟩
    · rintro ⟨u, h1, h2, -, h4⟩
      exact ⟨u, List.mem_filter.2 ⟨List.mem_range.2 h1, decide_eq_true h4⟩, h2.symm⟩
theorem HI.perm {n : Nat} {out h h' : List Int} {g : Nat → Nat} (hi : HI n out g h) (hp : h'.Perm h) : HI n out g h' := ⟨hp.nodup_iff.2 hi.1, fun x => by rw [hp.mem_iff, hi.2]⟩
theorem HI.eq {n : Nat} {out h : List Int} {g g' : Nat → Nat} (hi : HI n out g h) (hg : ∀ u, u < n → g u = g' u) : HI n out g' h := ⟨hi.1, fun x => by
  rw [hi.2]
  constructor <;> rintro ⟨u, a, b, c, d⟩
  · exact ⟨u, a, b, c, by rw [← hg u a]; exact d⟩
  · exact ⟨u, a, b, c, by rw [hg u a]; exact d⟩⟩
/-- the count of a list without repeats -/
theorem count_sorted : ∀ {l : List Int}, l.Pairwise (· < ·) → ∀ x, l.count x = if x ∈ l then 1 else 0 := by
  intro l hl x
  have hn : l.Nodup := hl.imp fun h e => by omega
  by_cases h : x ∈ l
  · rw [if_pos h, List.Nodup.count hn, if_pos h]
  · rw [if_neg h, List.count_eq_zero.2 h]
theorem count_take {l : List Int} {j : Nat} (hj : j < l.length) (x : Int) : (l.take (j + 1)).count x = (l.take j).count x + if l[j] = x then 1 else 0 := by
  rw [List.take_add_one, List.getElem?_eq_getElem hj, Option.toList_some, List.count_append, List.count_singleton]
  congr 1
  simp [beq_iff_eq]
end Go.Z.Gr
