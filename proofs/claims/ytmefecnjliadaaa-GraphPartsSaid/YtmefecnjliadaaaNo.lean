/- Chapter 4, plain: classes in the order of their least vertices. No program in sight. Conditions: none. -/
import Derived.Test.YtmefecnjliadaaaNl
import Derived.Test.YtmefecnjliadaaaNg
namespace Go.Z.Gr
set_option maxRecDepth 8000
set_option linter.unusedVariables false
set_option linter.unusedSimpArgs false
set_option linter.unusedSectionVars false
open Go.Z.Gra
def partsC (n : Nat) (R : Nat → Nat → Prop) [∀ u v, Decidable (R u v)] : List (List Nat) := ((List.range n).filter fun v => decide (∀ u, u < v → ¬ R u v)).map fun v => (List.range n).filter fun w => decide (R v w)
theorem partsC_congr {n : Nat} {R R' : Nat → Nat → Prop} [∀ u v, Decidable (R u v)] [∀ u v, Decidable (R' u v)] (h : ∀ u v, u < n → v < n → (R u v ↔ R' u v)) : partsC n R = partsC n R' := by
  unfold partsC
  have e1 : ((List.range n).filter fun v => decide (∀ u, u < v → ¬ R u v)) = (List.range n).filter fun v => decide (∀ u, u < v → ¬ R' u v) :=
    List.filter_congr fun v hv => decide_eq_decide.2 ⟨fun g u hu e => g u hu ((h u v (by have := List.mem_range.1 hv; omega) (List.mem_range.1 hv)).2 e), fun g u hu e => g u hu ((h u v (by have := List.mem_range.1 hv; omega) (List.mem_range.1 hv)).1 e)⟩
  rw [e1]
  refine List.map_congr_left fun v hv => ?_
  have hv' := List.mem_range.1 (List.mem_filter.1 hv).1
  exact List.filter_congr fun w hw => decide_eq_decide.2 (h v w hv' (List.mem_range.1 hw))
def leaders (k : Nat) (nu : Nat → Nat) : List Nat := (List.range k).filter fun v => decide (∀ u, u < v → ¬ nu u = nu v)
def grp (k : Nat) (nu : Nat → Nat) (l : Nat) : List Nat := (List.range k).filter fun w => decide (nu l = nu w)
def groups (k : Nat) (nu : Nat → Nat) : List (List Nat) := (leaders k nu).map (grp k nu)
theorem groups_all (n : Nat) (nu : Nat → Nat) : groups n nu = partsC n (fun u v => nu u = nu v) := rfl
def plc (k : Nat) (nu : Nat → Nat) (c : Nat) : Nat := match (leaders k nu).findIdx? (fun l => decide (nu l = c)) with
  | some i => i + 1
  | none => 0
theorem lead_mem {k : Nat} {nu : Nat → Nat} {v : Nat} : v ∈ leaders k nu ↔ v < k ∧ ∀ u, u < v → ¬ nu u = nu v := by
  unfold leaders
  rw [List.mem_filter, List.mem_range, decide_eq_true_iff]
theorem lead_ex {k : Nat} {nu : Nat → Nat} {c : Nat} : ∀ u, u < k → nu u = c → ∃ l ∈ leaders k nu, nu l = c := by
  intro u
  induction u using Nat.strongRecOn with
  | ind u ih =>
    intro hu hc
    by_cases h : ∀ x, x < u → ¬ nu x = nu u
    · exact ⟨u, lead_mem.2 ⟨hu, h⟩, hc⟩
    · rw [Classical.not_forall] at h
      obtain ⟨x, hx⟩ := h
      rw [Classical.not_imp, Classical.not_not] at hx
      exact ih x hx.1 (by omega) (by rw [hx.2]; exact hc)
theorem lead_succ (k : Nat) (nu : Nat → Nat) : leaders (k + 1) nu = leaders k nu ++ if (∀ u, u < k → ¬ nu u = nu k) then [k] else [] := by
  unfold leaders
  rw [List.range_succ, List.filter_append]
  congr 1
  by_cases h : ∀ u, u < k → ¬ nu u = nu k
  · rw [if_pos h, List.filter_cons, if_pos (decide_eq_true h)]; rfl
  · rw [if_neg h, List.filter_cons, if_neg (by simpa using h)]; rfl
theorem grp_succ (k : Nat) (nu : Nat → Nat) (l : Nat) : grp (k + 1) nu l = grp k nu l ++ if nu l = nu k then [k] else [] := by
  unfold grp
  rw [List.range_succ, List.filter_append]
  congr 1
  by_cases h : nu l = nu k
  · rw [if_pos h, List.filter_cons, if_pos (decide_eq_true h)]; rfl
  · rw [if_neg h, List.filter_cons, if_neg (by simpa using h)]; rfl
theorem plc_none {k : Nat} {nu : Nat → Nat} {c : Nat} (h : plc k nu c = 0) : ∀ l ∈ leaders k nu, ¬ nu l = c := by
  unfold plc at h
  cases e : (leaders k nu).findIdx? (fun l => decide (nu l = c)) with
  | some i => rw [e] at h; simp at h
  | none =>
    rw [List.findIdx?_eq_none_iff] at e
    intro l hl
    have := e l hl
    simpa using this
theorem plc_some {k : Nat} {nu : Nat → Nat} {c i : Nat} (h : plc k nu c = i + 1) : ∃ hi : i < (leaders k nu).length, nu (leaders k nu)[i] = c := by
  unfold plc at h
  cases e : (leaders k nu).findIdx? (fun l => decide (nu l = c)) with
  | none => rw [e] at h; simp at h
  | some j =>
    rw [e] at h
    have hj : j = i := by simpa using h
    subst hj
    rw [List.findIdx?_eq_some_iff_getElem] at e
    obtain ⟨h1, h2, -⟩ := e
    exact ⟨h1, of_decide_eq_true h2⟩
/-- a new class -/
theorem parts_new {k : Nat} {nu : Nat → Nat} (h : plc k nu (nu k) = 0) : groups (k + 1) nu = groups k nu ++ [[k]] ∧ ∀ c, plc (k + 1) nu c = if c = nu k then (groups k nu).length + 1 else plc k nu c := by
  have hno := plc_none h
  have hno2 : ∀ u, u < k → ¬ nu u = nu k := fun u hu e => by
    obtain ⟨l, h1, h2⟩ := lead_ex u hu e
    exact hno l h1 h2
  have hl := lead_succ k nu
  rw [if_pos hno2] at hl
  refine ⟨?_, fun c => ?_⟩
  · unfold groups
    rw [hl, List.map_append]
    congr 1
    · refine List.map_congr_left fun l hl => ?_
      rw [grp_succ, if_neg (hno l hl), List.append_nil]
    · rw [List.map_cons, List.map_nil, grp_succ, if_pos rfl]
      have : grp k nu k = [] := by
        unfold grp
        rw [List.filter_eq_nil_iff]
        intro w hw
        rw [decide_eq_true_iff]
        exact fun e => hno2 w (List.mem_range.1 hw) e.symm
      rw [this]; rfl
  · unfold plc
    rw [hl, List.findIdx?_append]
    cases e : (leaders k nu).findIdx? (fun l => decide (nu l = c)) with
    | some i =>
      rw [List.findIdx?_eq_some_iff_getElem] at e
      obtain ⟨h1, h2, -⟩ := e
      rw [if_neg (fun hc => hno _ (List.getElem_mem h1) (by rw [of_decide_eq_true h2]; exact hc))]
      rfl
    | none =>
      by_cases hc : c = nu k
      · rw [if_pos hc, List.findIdx?_cons, if_pos (decide_eq_true hc.symm)]
        simp [groups]
      · rw [if_neg hc, List.findIdx?_cons, if_neg (by simpa using fun e => hc e.symm)]
        rfl
/-- one more of a class -/
theorem parts_old {k : Nat} {nu : Nat → Nat} {i : Nat} (h : plc k nu (nu k) = i + 1) : ∃ hi : i < (groups k nu).length, groups (k + 1) nu = (groups k nu).set i ((groups k nu)[i] ++ [k]) ∧ ∀ c, plc (k + 1) nu c = plc k nu c := by
  obtain ⟨hi, hc⟩ := plc_some h
  have hm := lead_mem.1 (List.getElem_mem hi)
  have hl := lead_succ k nu
  rw [if_neg (fun g => g _ hm.1 hc), List.append_nil] at hl
  refine ⟨by unfold groups; rw [List.length_map]; exact hi, ?_, fun c => by unfold plc; rw [hl]⟩
  unfold groups
  rw [hl]
  refine List.ext_getElem (by simp) fun j h1 h2 => ?_
  rw [List.getElem_map, grp_succ, List.getElem_set]
  rw [List.length_map] at h1
  by_cases e : i = j
  · subst e
    rw [if_pos rfl, if_pos hc, List.getElem_map]
  · rw [if_neg e, List.getElem_map, if_neg, List.append_nil]
    intro hj
    have hmj := lead_mem.1 (List.getElem_mem h1)
    have hnd : (leaders k nu).Pairwise (· ≠ ·) := List.nodup_range.filter _
    rw [List.pairwise_iff_getElem] at hnd
    have hne : (leaders k nu)[i] ≠ (leaders k nu)[j] := by
      rcases Nat.lt_or_gt_of_ne e with q | q
      · exact hnd i j hi h1 q
      · exact fun x => hnd j i h1 hi q x.symm
    rcases Nat.lt_or_gt_of_ne hne with q | q
    · exact hmj.2 _ q (by rw [hc, hj])
    · exact hm.2 _ q (by rw [hc, hj])
theorem groups_len (k : Nat) (nu : Nat → Nat) : (groups k nu).length ≤ k := by
  unfold groups leaders
  rw [List.length_map]
  have := List.length_filter_le (fun v => decide (∀ u, u < v → ¬ nu u = nu v)) (List.range k)
  rwa [List.length_range] at this
theorem grp_len (k : Nat) (nu : Nat → Nat) (l : Nat) : (grp k nu l).length ≤ k := by
  unfold grp
  have := List.length_filter_le (fun w => decide (nu l = nu w)) (List.range k)
  rwa [List.length_range] at this
/-- reaching, on natural numbers -/
theorem rch_rc {E : Ed} {n : Nat} (ho : ∀ e ∈ E, (0 ≤ e.1 ∧ e.1 < n) ∧ 0 ≤ e.2 ∧ e.2 < n) {x y : Nat} : Rch (nbN E) x y ↔ Rc E x y := by
  constructor
  · intro h
    induction h with
    | refl => exact .refl
    | step _ hz ih =>
      obtain ⟨w, h1, h2⟩ := List.mem_map.1 hz
      have h3 := nbP_mem.1 h1
      have := ho _ h3
      dsimp only at this
      rw [show w = ((w.toNat : Nat) : Int) by omega, h2] at h3
      exact .step ih h3
  · intro h
    have : ∀ v : Int, Rc E x v → Rch (nbN E) x v.toNat := fun v hv => by
      induction hv with
      | refl => rw [Int.toNat_natCast]; exact .refl _
      | step hu e ih =>
        rename_i u w
        have := ho _ e
        dsimp only at this
        refine .step ih (List.mem_map.2 ⟨w, ?_, rfl⟩)
        rw [show ((u.toNat : Nat) : Int) = u by omega]
        exact nbP_mem.2 e
    have h2 := this y h
    rwa [Int.toNat_natCast] at h2
open Classical in
/-- the components -/
noncomputable def partsP (E : Ed) (n : Nat) : List (List Int) := (partsC n fun u v => Rc E u v ∧ Rc E v u).map fun l => l.map fun x : Nat => (x : Int)
open Classical in
theorem partsP_eq {E E' : Ed} (h : ∀ e, e ∈ E ↔ e ∈ E') (n : Nat) : partsP E n = partsP E' n := by
  unfold partsP
  congr 1
  exact partsC_congr fun u v _ _ => ⟨fun ⟨a, b⟩ => ⟨a.mono fun e => (h e).1, b.mono fun e => (h e).1⟩, fun ⟨a, b⟩ => ⟨a.mono fun e => (h e).2, b.mono fun e => (h e).2⟩⟩
open Classical in
theorem partsP_nu {E : Ed} {n : Nat} {nu : Nat → Nat} (h : ∀ u v, u < n → v < n → (nu u = nu v ↔ Rc E u v ∧ Rc E v u)) : (groups n nu).map (fun l => l.map fun x : Nat => (x : Int)) = partsP E n := by
  unfold partsP
  rw [groups_all]
  congr 1
  exact partsC_congr h
end Go.Z.Gr
