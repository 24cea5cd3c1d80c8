/- Chapter 4, plain: graphs: successors in order, what is ready, the least order. No program in sight. Conditions: none. -/
import Derived.Lib.SlicesCompact
namespace Go.Z.Gr
set_option maxRecDepth 8000
set_option linter.unusedVariables false
set_option linter.unusedSimpArgs false
set_option linter.unusedSectionVars false
open Go.Lib
abbrev Ed := List (Int × Int)
def leI (x y : Int) : Bool := decide (x ≤ y)
def tosP (E : Ed) (v : Int) : List Int := (E.filter fun e => decide (e.1 = v)).map (·.2)
def nbP (E : Ed) (v : Int) : List Int := compact ((tosP E v).mergeSort leI)
theorem get_take {d : Array Int} {m : Nat} (h : m < d.size) : d[m]! = d.toList[m]'(by simpa using h) := by
  rw [getElem!_pos d m h]; simp
theorem upTo_mem (l : List Int) : ∀ m, m ≤ l.length → ∀ x, x ∈ compactUpTo l.toArray m ↔ x ∈ l.take m
  | 0, _, x => by simp [compactUpTo]
  | m + 1, h, x => by
    have hm : m < l.length := by omega
    have ih := upTo_mem l m (by omega) x
    have hg : l.toArray[m]! = l[m] := by rw [getElem!_pos l.toArray m (by simpa using hm)]; simp
    rw [compactUpTo_succ, List.mem_append, ih, List.take_add_one, List.getElem?_eq_getElem hm, Option.toList_some, List.mem_append, List.mem_singleton, hg]
    by_cases hk : keeps l.toArray m = true
    · rw [if_pos hk, List.mem_singleton]
    · rw [if_neg hk]
      constructor
      · rintro (h1 | h1)
        · exact .inl h1
        · cases h1
      · rintro (h1 | h1)
        · exact .inl h1
        · left
          unfold keeps at hk
          rw [decide_eq_true_eq, not_or] at hk
          have h0 : 0 < m := Nat.pos_of_ne_zero hk.1
          have h2 : l.toArray[m - 1]! = l[m - 1] := by rw [getElem!_pos l.toArray (m - 1) (by simp; omega)]; simp
          have h3 : l[m] = l[m - 1] := by
            have := Classical.byContradiction hk.2
            rw [hg, h2] at this; exact this
          rw [h1, h3]
          rw [List.mem_take_iff_getElem]
          exact ⟨m - 1, by omega, rfl⟩
theorem compact_mem {l : List Int} {x : Int} : x ∈ compact l ↔ x ∈ l := by
  unfold compact
  rw [upTo_mem l l.length (Nat.le_refl _), List.take_length]
theorem upTo_sorted (l : List Int) (hs : l.Pairwise (· ≤ ·)) : ∀ m, m ≤ l.length → (compactUpTo l.toArray m).Pairwise (· < ·)
  | 0, _ => by simp [compactUpTo]
  | m + 1, h => by
    have hm : m < l.length := by omega
    have ih := upTo_sorted l hs m (by omega)
    have hg : l.toArray[m]! = l[m] := by rw [getElem!_pos l.toArray m (by simpa using hm)]; simp
    rw [compactUpTo_succ, hg]
    by_cases hk : keeps l.toArray m = true
    · rw [if_pos hk, List.pairwise_append]
      refine ⟨ih, List.pairwise_singleton .., fun a ha b hb => ?_⟩
      rw [List.mem_singleton.1 hb]
      have ha' := (upTo_mem l m (by omega) a).1 ha
      rw [List.mem_take_iff_getElem] at ha'
      obtain ⟨i, hi, rfl⟩ := ha'
      rw [List.pairwise_iff_getElem] at hs
      have him : i < m := by omega
      unfold keeps at hk
      rw [decide_eq_true_eq] at hk
      have hne : l[m] ≠ l[m - 1] := by
        rcases hk with h0 | h0
        · omega
        · have h2 : l.toArray[m - 1]! = l[m - 1] := by rw [getElem!_pos l.toArray (m - 1) (by simp; omega)]; simp
          rw [hg, h2] at h0; exact h0
      have h1 : l[m - 1] ≤ l[m] := hs (m - 1) m (by omega) hm (by omega)
      have h2 : l[i] ≤ l[m - 1] := by
        by_cases e : i = m - 1
        · subst e; exact Int.le_refl _
        · exact hs i (m - 1) (by omega) (by omega) (by omega)
      omega
    · rw [if_neg hk, List.append_nil]; exact ih
theorem nbP_mem {E : Ed} {v w : Int} : w ∈ nbP E v ↔ (v, w) ∈ E := by
  unfold nbP
  rw [compact_mem, List.mem_mergeSort]
  unfold tosP
  rw [List.mem_map]
  constructor
  · rintro ⟨⟨a, b⟩, h1, rfl⟩
    rw [List.mem_filter, decide_eq_true_eq] at h1
    obtain ⟨h1, rfl⟩ := h1
    exact h1
  · intro h
    exact ⟨(v, w), by rw [List.mem_filter, decide_eq_true_eq]; exact ⟨h, rfl⟩, rfl⟩
theorem nbP_sorted (E : Ed) (v : Int) : (nbP E v).Pairwise (· < ·) := by
  unfold nbP compact
  refine upTo_sorted _ ?_ _ (Nat.le_refl _)
  have := List.pairwise_mergeSort (le := leI) (fun a b c h1 h2 => by simp [leI] at *; omega) (fun a b => by simp [leI]; omega) (tosP E v)
  exact this.imp fun h => by simpa [leI] using h
theorem sorted_eq : ∀ {a b : List Int}, a.Pairwise (· < ·) → b.Pairwise (· < ·) → (∀ x, x ∈ a ↔ x ∈ b) → a = b
  | [], b, _, _, h => by
    cases b with
    | nil => rfl
    | cons y b => exact absurd ((h y).2 List.mem_cons_self) List.not_mem_nil
  | x :: a, [], _, _, h => absurd ((h x).1 List.mem_cons_self) List.not_mem_nil
  | x :: a, y :: b, ha, hb, h => by
    rw [List.pairwise_cons] at ha hb
    have hxy : x = y := by
      have h1 := (h x).1 List.mem_cons_self
      have h2 := (h y).2 List.mem_cons_self
      rcases List.mem_cons.1 h1 with e | e
      · exact e
      · rcases List.mem_cons.1 h2 with e2 | e2
        · exact e2.symm
        · have h3 := hb.1 x e
          have h4 := ha.1 y e2
          omega
    subst hxy
    congr 1
    refine sorted_eq ha.2 hb.2 fun z => ?_
    constructor
    · intro hz
      rcases List.mem_cons.1 ((h z).1 (List.mem_cons_of_mem _ hz)) with e | e
      · have := ha.1 z hz; omega
      · exact e
    · intro hz
      rcases List.mem_cons.1 ((h z).2 (List.mem_cons_of_mem _ hz)) with e | e
      · have := hb.1 z hz; omega
      · exact e
theorem nbP_eq {E E' : Ed} (h : ∀ e, e ∈ E ↔ e ∈ E') (v : Int) : nbP E v = nbP E' v :=
  sorted_eq (nbP_sorted E v) (nbP_sorted E' v) fun x => by rw [nbP_mem, nbP_mem, h]

/-- how many vertices with an edge to w are not out yet -/
def pend (E : Ed) (n : Nat) (out : List Int) (w : Int) : Nat := (List.range n).countP fun u : Nat => decide ((u : Int) ∉ out ∧ ((u : Int), w) ∈ E)
def ready (E : Ed) (n : Nat) (out : List Int) (v : Nat) : Bool := decide ((v : Int) ∉ out ∧ pend E n out v = 0)
def leastP (E : Ed) (n : Nat) (out : List Int) : Option Nat := (List.range n).find? (ready E n out)
def goP (E : Ed) (n : Nat) : Nat → List Int → List Int
  | 0, out => out
  | k + 1, out => match leastP E n out with
    | none => out
    | some v => goP E n k (out ++ [(v : Int)])
def orderP (E : Ed) (n : Nat) : List Int := goP E n n []
theorem pend_eq {E E' : Ed} (h : ∀ e, e ∈ E ↔ e ∈ E') (n : Nat) (out : List Int) (w : Int) : pend E n out w = pend E' n out w := by
  unfold pend
  congr 1
  funext u
  exact decide_eq_decide.2 (by rw [h])
theorem order_eq {E E' : Ed} (h : ∀ e, e ∈ E ↔ e ∈ E') (n : Nat) : orderP E n = orderP E' n := by
  have hr : ∀ out, leastP E n out = leastP E' n out := fun out => by
    unfold leastP
    congr 1
    funext v
    unfold ready
    rw [pend_eq h]
  have hg : ∀ k out, goP E n k out = goP E' n k out := by
    intro k
    induction k with
    | zero => intro out; rfl
    | succ k ih =>
      intro out
      unfold goP
      rw [hr]
      cases leastP E' n out with
      | none => rfl
      | some v => exact ih _
  exact hg n []
/-- what is pending when v goes out -/
theorem pend_step {E : Ed} {n : Nat} {out : List Int} {v : Nat} (hv : v < n) (ho : (v : Int) ∉ out) (w : Int) : pend E n out w = pend E n (out ++ [(v : Int)]) w + if ((v : Int), w) ∈ E then 1 else 0 := by
  unfold pend
  have hsplit : ∀ l : List Nat, l.Nodup → (l.countP fun u : Nat => decide ((u : Int) ∉ out ∧ ((u : Int), w) ∈ E)) = (l.countP fun u : Nat => decide ((u : Int) ∉ out ++ [(v : Int)] ∧ ((u : Int), w) ∈ E)) + if v ∈ l ∧ ((v : Int), w) ∈ E then 1 else 0 := by
    intro l
    induction l with
    | nil => intro _; simp
    | cons a l ih =>
      intro hn
      rw [List.nodup_cons] at hn
      rw [List.countP_cons, List.countP_cons, ih hn.2]
      by_cases hav : a = v
      · subst hav
        have e1 : decide ((a : Int) ∉ out ∧ ((a : Int), w) ∈ E) = decide (((a : Int), w) ∈ E) := decide_eq_decide.2 ⟨fun h => h.2, fun h => ⟨ho, h⟩⟩
        have e2 : decide ((a : Int) ∉ out ++ [(a : Int)] ∧ ((a : Int), w) ∈ E) = false := decide_eq_false fun h => h.1 (by simp)
        rw [e1, e2]
        by_cases he : ((a : Int), w) ∈ E
        · simp [he, hn.1]
        · simp [he]
      · have e1 : decide ((a : Int) ∉ out ∧ ((a : Int), w) ∈ E) = decide ((a : Int) ∉ out ++ [(v : Int)] ∧ ((a : Int), w) ∈ E) := decide_eq_decide.2 (by
          rw [List.mem_append, List.mem_singleton, not_or]
          exact ⟨fun h => ⟨⟨h.1, fun e => hav (by omega)⟩, h.2⟩, fun h => ⟨h.1.1, h.2⟩⟩)
        rw [e1]
        have e3 : (v ∈ a :: l ∧ ((v : Int), w) ∈ E) ↔ (v ∈ l ∧ ((v : Int), w) ∈ E) := by
          rw [List.mem_cons]
          exact ⟨fun h => ⟨h.1.resolve_left (fun e => hav e.symm), h.2⟩, fun h => ⟨.inr h.1, h.2⟩⟩
        simp only [e3]
        omega
  rw [hsplit _ List.nodup_range]
  simp only [List.mem_range, hv, true_and]
end Go.Z.Gr
