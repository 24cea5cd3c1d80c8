/- Chapter 4, plain: shortest distances to a vertex; a search in width finds them. No program in sight. Conditions: none. -/
import Derived.Test.YtmefecnjliadaaaNa
namespace Go.Z.Gr
set_option maxRecDepth 8000
set_option linter.unusedVariables false
set_option linter.unusedSimpArgs false
set_option linter.unusedSectionVars false
open Go.Lib
/-- a path of k edges from u to t; all of its vertices ahead of its end are greater than t -/
def PT (E : Ed) (t : Int) : Nat → Int → Prop
  | 0, u => u = t
  | k + 1, u => t < u ∧ ∃ v, (u, v) ∈ E ∧ PT E t k v
/-- d holds the distances to t -/
def DistOk (E : Ed) (n : Nat) (t : Int) (d : List Int) : Prop := d.length = n ∧ ∀ u : Nat, (h : u < d.length) → (0 ≤ d[u] → PT E t d[u].toNat u ∧ ∀ k, PT E t k u → d[u] ≤ k) ∧ (d[u] < 0 → d[u] = -1 ∧ ∀ k, ¬ PT E t k u)
theorem DistOk.unique {E : Ed} {n : Nat} {t : Int} {d d' : List Int} (h : DistOk E n t d) (h' : DistOk E n t d') : d = d' := by
  refine List.ext_getElem (by rw [h.1, h'.1]) fun i h1 h2 => ?_
  obtain ⟨a1, a2⟩ := h.2 i h1
  obtain ⟨b1, b2⟩ := h'.2 i h2
  by_cases ha : 0 ≤ d[i]
  · obtain ⟨p1, p2⟩ := a1 ha
    by_cases hb : 0 ≤ d'[i]
    · obtain ⟨q1, q2⟩ := b1 hb
      have := p2 _ q1
      have := q2 _ p1
      omega
    · exact absurd p1 ((b2 (by omega)).2 _)
  · by_cases hb : 0 ≤ d'[i]
    · exact absurd (b1 hb).1 ((a2 (by omega)).2 _)
    · rw [(a2 (by omega)).1, (b2 (by omega)).1]
theorem PT_eq {E E' : Ed} (h : ∀ e, e ∈ E ↔ e ∈ E') (t : Int) : ∀ k u, PT E t k u ↔ PT E' t k u
  | 0, u => Iff.rfl
  | k + 1, u => by
    unfold PT
    constructor
    · rintro ⟨h1, v, h2, h3⟩
      exact ⟨h1, v, (h _).1 h2, (PT_eq h t k v).1 h3⟩
    · rintro ⟨h1, v, h2, h3⟩
      exact ⟨h1, v, (h _).2 h2, (PT_eq h t k v).2 h3⟩
theorem DistOk.eq {E E' : Ed} (h : ∀ e, e ∈ E ↔ e ∈ E') {n : Nat} {t : Int} {d : List Int} (hd : DistOk E n t d) : DistOk E' n t d := by
  refine ⟨hd.1, fun u hu => ?_⟩
  obtain ⟨a1, a2⟩ := hd.2 u hu
  exact ⟨fun h0 => ⟨(PT_eq h t _ _).1 (a1 h0).1, fun k hk => (a1 h0).2 k ((PT_eq h t _ _).2 hk)⟩, fun h0 => ⟨(a2 h0).1, fun k hk => (a2 h0).2 k ((PT_eq h t _ _).2 hk)⟩⟩
def getI (d : List Int) (u : Int) : Int := d.getD u.toNat (-1)
theorem getI_nat {d : List Int} {u : Nat} (h : u < d.length) : getI d (u : Int) = d[u] := by
  unfold getI
  rw [Int.toNat_natCast, List.getD_eq_getElem?_getD, List.getElem?_eq_getElem h]; rfl
/-- the state of a search: distances, the queue; all edges stay within n -/
structure BI (E : Ed) (n : Nat) (t : Int) (d : List Int) (q : List Int) : Prop where
  len : d.length = n
  tin : 0 ≤ t ∧ t < n
  edg : ∀ e ∈ E, (0 ≤ e.1 ∧ e.1 < n) ∧ 0 ≤ e.2 ∧ e.2 < n
  zero : getI d t = 0
  low : ∀ u ∈ d, -1 ≤ u
  real : ∀ u : Int, 0 ≤ u → u < n → 0 ≤ getI d u → PT E t (getI d u).toNat u
  qin : ∀ u ∈ q, (0 ≤ u ∧ u < n) ∧ 0 ≤ getI d u
  qsort : q.Pairwise fun a b => getI d a ≤ getI d b
  top : ∀ a r, q = a :: r → ∀ u : Int, 0 ≤ u → u < n → getI d u ≤ getI d a + 1
  done : ∀ v : Int, 0 ≤ v → v < n → 0 ≤ getI d v → v ∉ q → ∀ u, (u, v) ∈ E → t < u → 0 ≤ getI d u ∧ getI d u ≤ getI d v + 1
theorem BI.finish {E : Ed} {n : Nat} {t : Int} {d : List Int} (h : BI E n t d []) : DistOk E n t d := by
  have hle : ∀ k (u : Int), 0 ≤ u → u < n → PT E t k u → 0 ≤ getI d u ∧ getI d u ≤ k := by
    intro k
    induction k with
    | zero =>
      intro u h1 h2 h3
      have h3' : u = t := h3
      subst h3'
      rw [h.zero]; omega
    | succ k ih =>
      intro u h1 h2 h3
      obtain ⟨h4, v, h5, h6⟩ := h3
      obtain ⟨e1, e2, e3⟩ := h.edg _ h5
      dsimp only at e1 e2 e3
      obtain ⟨i1, i2⟩ := ih v e2 e3 h6
      obtain ⟨j1, j2⟩ := h.done v e2 e3 i1 List.not_mem_nil u h5 h4
      omega
  refine ⟨h.len, fun u hu => ?_⟩
  have hg := getI_nat hu
  have hn := h.len
  refine ⟨fun h0 => ⟨?_, fun k hk => ?_⟩, fun h0 => ⟨?_, fun k hk => ?_⟩⟩
  · have := h.real u (by omega) (by omega) (by rw [hg]; exact h0)
    rw [hg] at this; exact this
  · have := (hle k u (by omega) (by omega) hk).2
    rw [hg] at this; exact this
  · have := h.low _ (List.getElem_mem hu); omega
  · have := (hle k u (by omega) (by omega) hk).1
    rw [hg] at this; omega
theorem BI.start {E : Ed} {n : Nat} {t : Int} (ht : 0 ≤ t ∧ t < n) (he : ∀ e ∈ E, (0 ≤ e.1 ∧ e.1 < n) ∧ 0 ≤ e.2 ∧ e.2 < n) : BI E n t ((List.replicate n (-1)).set t.toNat 0) [t] := by
  have hl : ((List.replicate n (-1 : Int)).set t.toNat 0).length = n := by simp
  have hg : ∀ u : Int, 0 ≤ u → u < n → getI ((List.replicate n (-1)).set t.toNat 0) u = if u = t then 0 else -1 := fun u h1 h2 => by
    obtain ⟨m, rfl⟩ : ∃ m : Nat, u = m := ⟨u.toNat, by omega⟩
    rw [getI_nat (by rw [hl]; omega), List.getElem_set]
    by_cases e : t.toNat = m
    · rw [if_pos e, if_pos (by omega)]
    · rw [if_neg e, if_neg (by omega)]; simp
  refine ⟨hl, ht, he, by rw [hg t ht.1 ht.2, if_pos rfl], fun u hu => ?_, fun u h1 h2 h3 => ?_, fun u hu => ?_, List.pairwise_singleton .., fun a r hq u h1 h2 => ?_, fun v h1 h2 h3 h4 => ?_⟩
  · rcases List.mem_or_eq_of_mem_set hu with h | h
    · rw [List.eq_of_mem_replicate h]; decide
    · omega
  · rw [hg u h1 h2] at h3 ⊢
    by_cases e : u = t
    · rw [if_pos e]; exact e
    · rw [if_neg e] at h3; omega
  · rw [List.mem_singleton.1 hu]
    exact ⟨ht, by rw [hg t ht.1 ht.2, if_pos rfl]; decide⟩
  · injection hq with hq _
    subst hq
    rw [hg u h1 h2, hg t ht.1 ht.2, if_pos rfl]
    split <;> decide
  · rw [hg v h1 h2] at h3
    by_cases e : v = t
    · exact absurd (List.mem_singleton.2 e) h4
    · rw [if_neg e] at h3; omega
theorem getI_set {d : List Int} {a : Int} (ha : 0 ≤ a ∧ a < d.length) (x : Int) {u : Int} (hu : 0 ≤ u ∧ u < d.length) : getI (d.set a.toNat x) u = if u = a then x else getI d u := by
  obtain ⟨m, rfl⟩ : ∃ m : Nat, u = m := ⟨u.toNat, by omega⟩
  rw [getI_nat (by rw [List.length_set]; omega), List.getElem_set]
  by_cases e : a.toNat = m
  · rw [if_pos e, if_pos (by omega)]
  · rw [if_neg e, if_neg (by omega), getI_nat (by omega)]
/-- while the queue's first vertex v is worked off: l are the vertices with an edge to it that were looked at -/
structure MI (E : Ed) (n : Nat) (t v : Int) (l : List Int) (d q : List Int) : Prop where
  len : d.length = n
  tin : 0 ≤ t ∧ t < n
  edg : ∀ e ∈ E, (0 ≤ e.1 ∧ e.1 < n) ∧ 0 ≤ e.2 ∧ e.2 < n
  zero : getI d t = 0
  low : ∀ u ∈ d, -1 ≤ u
  real : ∀ u : Int, 0 ≤ u → u < n → 0 ≤ getI d u → PT E t (getI d u).toNat u
  vin : 0 ≤ v ∧ v < n
  vd : 0 ≤ getI d v
  qin : ∀ u ∈ q, (0 ≤ u ∧ u < n) ∧ 0 ≤ getI d u
  qsort : q.Pairwise fun a b => getI d a ≤ getI d b
  qge : ∀ a ∈ q, getI d v ≤ getI d a
  top : ∀ u : Int, 0 ≤ u → u < n → getI d u ≤ getI d v + 1
  done : ∀ x : Int, 0 ≤ x → x < n → 0 ≤ getI d x → x ∉ q → x ≠ v → ∀ u, (u, x) ∈ E → t < u → 0 ≤ getI d u ∧ getI d u ≤ getI d x + 1
  part : ∀ u ∈ l, t < u → 0 ≤ getI d u
theorem MI.begin {E : Ed} {n : Nat} {t v : Int} {d q : List Int} (h : BI E n t d (v :: q)) : MI E n t v [] d q := by
  obtain ⟨h1, h2⟩ := h.qin v List.mem_cons_self
  have hs := List.pairwise_cons.1 h.qsort
  exact ⟨h.len, h.tin, h.edg, h.zero, h.low, h.real, h1, h2, fun u hu => h.qin u (List.mem_cons_of_mem _ hu), hs.2, hs.1, h.top v q rfl,
    fun x a b c e f u hu => h.done x a b c (fun hm => by rcases List.mem_cons.1 hm with hm | hm; exact f hm; exact e hm) u hu, fun u hu => absurd hu List.not_mem_nil⟩
theorem MI.skip {E : Ed} {n : Nat} {t v : Int} {l d q : List Int} (h : MI E n t v l d q) {u : Int} (hs : ¬ (t < u ∧ getI d u < 0)) : MI E n t v (l ++ [u]) d q :=
  ⟨h.len, h.tin, h.edg, h.zero, h.low, h.real, h.vin, h.vd, h.qin, h.qsort, h.qge, h.top, h.done, fun x hx ht => by
    rcases List.mem_append.1 hx with hx | hx
    · exact h.part x hx ht
    · rw [List.mem_singleton.1 hx] at ht ⊢; omega⟩
theorem MI.add {E : Ed} {n : Nat} {t v : Int} {l d q : List Int} (h : MI E n t v l d q) {u : Int} (ht : t < u) (hd : getI d u < 0) (he : (u, v) ∈ E) : MI E n t v (l ++ [u]) (d.set u.toNat (getI d v + 1)) (q ++ [u]) := by
  obtain ⟨⟨u1, u2⟩, -⟩ := h.edg _ he
  dsimp only at u1 u2
  have hl := h.len
  have hg : ∀ x : Int, 0 ≤ x → x < n → getI (d.set u.toNat (getI d v + 1)) x = if x = u then getI d v + 1 else getI d x := fun x h1 h2 => getI_set ⟨u1, by omega⟩ _ ⟨h1, by omega⟩
  have hvu : v ≠ u := fun e => by have := h.vd; rw [e] at this; omega
  have hgv : getI (d.set u.toNat (getI d v + 1)) v = getI d v := by rw [hg v h.vin.1 h.vin.2, if_neg hvu]
  have hvd := h.vd
  have hge : ∀ x : Int, 0 ≤ x → x < n → 0 ≤ getI d x → getI (d.set u.toNat (getI d v + 1)) x = getI d x := fun x h1 h2 h3 => by
    rw [hg x h1 h2, if_neg (fun e => by rw [e] at h3; omega)]
  have htu : t ≠ u := by omega
  refine ⟨by rw [List.length_set, hl], h.tin, h.edg, by rw [hg t h.tin.1 h.tin.2, if_neg htu, h.zero], fun x hx => ?_, fun x h1 h2 h3 => ?_, h.vin, by rw [hgv]; exact hvd, fun x hx => ?_, ?_, fun x hx => ?_, fun x h1 h2 => ?_, fun x h1 h2 h3 h4 h5 w hw htw => ?_, fun x hx htx => ?_⟩
  · rcases List.mem_or_eq_of_mem_set hx with h1 | h1
    · exact h.low x h1
    · omega
  · rw [hg x h1 h2] at h3 ⊢
    by_cases e : x = u
    · rw [if_pos e]
      subst e
      have := h.real v h.vin.1 h.vin.2 hvd
      rw [show (getI d v + 1).toNat = (getI d v).toNat + 1 by omega]
      exact ⟨ht, v, he, this⟩
    · rw [if_neg e] at h3 ⊢
      exact h.real x h1 h2 h3
  · rcases List.mem_append.1 hx with hx | hx
    · obtain ⟨⟨a1, a2⟩, a3⟩ := h.qin x hx
      exact ⟨⟨a1, a2⟩, by rw [hge x a1 a2 a3]; exact a3⟩
    · rw [List.mem_singleton.1 hx]
      exact ⟨⟨u1, u2⟩, by rw [hg u u1 u2, if_pos rfl]; omega⟩
  · rw [List.pairwise_append]
    refine ⟨?_, List.pairwise_singleton .., fun a ha b hb => ?_⟩
    · refine List.Pairwise.imp_of_mem (fun {a b} ha hb hab => ?_) h.qsort
      obtain ⟨⟨a1, a2⟩, a3⟩ := h.qin a ha
      obtain ⟨⟨b1, b2⟩, b3⟩ := h.qin b hb
      rw [hge a a1 a2 a3, hge b b1 b2 b3]; exact hab
    · rw [List.mem_singleton.1 hb]
      obtain ⟨⟨a1, a2⟩, a3⟩ := h.qin a ha
      rw [hge a a1 a2 a3, hg u u1 u2, if_pos rfl]
      exact h.top a a1 a2
  · rw [hgv]
    rcases List.mem_append.1 hx with hx | hx
    · obtain ⟨⟨a1, a2⟩, a3⟩ := h.qin x hx
      rw [hge x a1 a2 a3]; exact h.qge x hx
    · rw [List.mem_singleton.1 hx, hg u u1 u2, if_pos rfl]; omega
  · rw [hgv, hg x h1 h2]
    split
    · omega
    · exact h.top x h1 h2
  · have hxu : x ≠ u := fun e => h4 (List.mem_append_right _ (List.mem_singleton.2 e))
    rw [hg x h1 h2, if_neg hxu] at h3 ⊢
    obtain ⟨i1, i2⟩ := h.done x h1 h2 h3 (fun hm => h4 (List.mem_append_left _ hm)) h5 w hw htw
    obtain ⟨⟨w1, w2⟩, -⟩ := h.edg _ hw
    rw [hge w w1 w2 i1]
    exact ⟨i1, i2⟩
  · rcases List.mem_append.1 hx with hx | hx
    · have h0 := h.part x hx htx
      by_cases hxn : x < n
      · have := h.tin.1
        rw [hge x (by omega) hxn h0]; exact h0
      · have e : getI d x = -1 := by unfold getI; rw [List.getD_eq_getElem?_getD, List.getElem?_eq_none (by omega)]; rfl
        omega
    · rw [List.mem_singleton.1 hx, hg u u1 u2, if_pos rfl]; omega
theorem MI.over {E : Ed} {n : Nat} {t v : Int} {l d q : List Int} (h : MI E n t v l d q) (hl : ∀ u, (u, v) ∈ E → u ∈ l) : BI E n t d q := by
  refine ⟨h.len, h.tin, h.edg, h.zero, h.low, h.real, h.qin, h.qsort, fun a r hq u h1 h2 => ?_, fun x h1 h2 h3 h4 u hu htu => ?_⟩
  · have := h.qge a (by rw [hq]; exact List.mem_cons_self)
    have := h.top u h1 h2
    omega
  · by_cases e : x = v
    · subst e
      obtain ⟨⟨u1, u2⟩, -⟩ := h.edg _ hu
      exact ⟨h.part u (hl u hu) htu, h.top u u1 u2⟩
    · exact h.done x h1 h2 h3 h4 e u hu htu
/-- what becomes less in each round -/
def leftB (d q : List Int) : Nat := 2 * d.countP (fun x => decide (x < 0)) + q.length
theorem leftB_add {d q : List Int} {u : Int} (h1 : 0 ≤ u ∧ u < d.length) (hd : getI d u < 0) {x : Int} (hx : 0 ≤ x) : leftB (d.set u.toNat x) (q ++ [u]) + 1 = leftB d q := by
  have hm : u.toNat < d.length := by omega
  have hg : getI d u = d[u.toNat] := by
    have := getI_nat hm
    rwa [show ((u.toNat : Nat) : Int) = u by omega] at this
  rw [hg] at hd
  have hc : (d.set u.toNat x).countP (fun x => decide (x < 0)) + 1 = d.countP (fun x => decide (x < 0)) := by
    rw [List.countP_set hm]
    have hp : 0 < d.countP (fun x => decide (x < 0)) := List.countP_pos_iff.2 ⟨_, List.getElem_mem hm, decide_eq_true hd⟩
    rw [decide_eq_true (p := d[u.toNat] < 0) hd, decide_eq_false (p := x < 0) (by omega)]
    simp; omega
  unfold leftB
  rw [List.length_append, List.length_singleton]
  omega
end Go.Z.Gr
