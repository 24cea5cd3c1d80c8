/- Own texts, put together: T0 T1 T2 T3 T4 T5 T6 T7 T8 T9. Conditions: as told at each. -/
import Derived.Test.YtopgbgnmjogeeaaGreatDoorMCmS0
/- Chapter 37: literals taken back, plain. Conditions: none. -/
namespace Go.Z.Sat
set_option maxRecDepth 8000
set_option linter.unusedVariables false
set_option linter.unusedSimpArgs false
set_option linter.unusedSectionVars false
open Go Go.Z

def unput (a : As) (l : Int) : As := fun v => if v = l.natAbs then none else a v
theorem put_unput {a : As} {l : Int} (h : lv a l = some true) : put (unput a l) l = a := by
  funext v
  unfold put unput
  by_cases e : v = l.natAbs
  · rw [if_pos e, e]
    rw [lv_abs] at h
    split at h
    · rename_i h0; rw [h, decide_eq_true h0]
    · rename_i h0
      cases hv : a l.natAbs with
      | none => rw [hv] at h; cases h
      | some x => rw [hv] at h; cases x <;> simp at h; rw [decide_eq_false h0]
  · rw [if_neg e, if_neg e]
theorem lv_unput (a : As) (l : Int) : lv (unput a l) l = none := by
  rw [lv_abs]; unfold unput; split <;> simp
theorem unput_put {a : As} {l : Int} (h : lv a l = none) : unput (put a l) l = a := by
  funext v
  unfold unput
  by_cases e : v = l.natAbs
  · rw [if_pos e, e]
    rw [lv_abs] at h
    split at h
    · exact h.symm
    · cases hv : a l.natAbs with
      | none => rfl
      | some x => rw [hv] at h; cases h
  · rw [if_neg e]
    unfold put
    rw [if_neg e]
theorem vcells_unput {n : Nat} {V : As} {l : Int} (hl : okL n l) : (vcells n V).set l.natAbs (.int .i64 0) = vcells n (unput V l) := by
  refine List.ext_getElem? fun i => ?_
  rw [List.getElem?_set]
  by_cases h : l.natAbs = i
  · have hi : i ≤ n := by have := hl.2; omega
    rw [if_pos h, vcells_len, if_pos (by omega), vcells_at _ hi]
    unfold unput
    rw [if_pos h.symm]; rfl
  · rw [if_neg h]
    by_cases hi : i ≤ n
    · rw [vcells_at _ hi, vcells_at _ hi]
      unfold unput
      rw [if_neg (fun e => h e.symm)]
    · rw [List.getElem?_eq_none (by rw [vcells_len]; omega), List.getElem?_eq_none (by rw [vcells_len]; omega)]

theorem bump1_comm (X : List Nat) (i j : Nat) : bump1 (bump1 X i) j = bump1 (bump1 X j) i := by
  refine List.ext_getElem (by simp [bump1_len]) fun k h1 h2 => ?_
  have e1 : ∀ (X : List Nat) (h : k < X.length), X[k] = X.getD k 0 := fun X h => by rw [List.getD_eq_getElem?_getD, List.getElem?_eq_getElem h]; rfl
  rw [e1 _ h1, e1 _ h2, bump1_get, bump1_get, bump1_get, bump1_get, bump1_len, bump1_len]
  omega
theorem bump_bump1 : ∀ (us X : List Nat) (i : Nat), bump (bump1 X i) us = bump1 (bump X us) i
  | [], X, i => rfl
  | j :: us, X, i => by
    show bump (bump1 (bump1 X i) j) us = bump1 (bump (bump1 X j) us) i
    rw [bump1_comm, bump_bump1 us]
theorem bump_cons (X : List Nat) (i : Nat) (us : List Nat) : bump X (i :: us) = bump1 (bump X us) i := bump_bump1 us X i

/-- the values after the literals of R, each new, were taken back in their order -/
def unputs (a : As) (R : List Int) : As := R.foldl unput a
theorem asg_append (T R : List Int) : asg (T ++ R) = R.foldl put (asg T) := by simp [asg]
theorem unputs_get : ∀ (R : List Int) (a : As) (v : Nat), unputs a R v = if v ∈ R.map Int.natAbs then none else a v
  | [], a, v => by simp [unputs]
  | l :: R, a, v => by
    show unputs (unput a l) R v = _
    rw [unputs_get R (unput a l) v]
    unfold unput
    by_cases h1 : v ∈ R.map Int.natAbs
    · rw [if_pos h1, if_pos (by simp only [List.map_cons, List.mem_cons]; exact .inr h1)]
    · rw [if_neg h1]
      by_cases h2 : v = l.natAbs
      · rw [if_pos h2, if_pos (by simp [h2])]
      · rw [if_neg h2, if_neg (by simp only [List.map_cons, List.mem_cons]; rintro (h | h); exact h2 h; exact h1 h)]
theorem puts_get : ∀ (R : List Int) (a : As) (v : Nat), v ∉ R.map Int.natAbs → R.foldl put a v = a v
  | [], a, v, _ => rfl
  | l :: R, a, v, h => by
    simp only [List.map_cons, List.mem_cons, not_or] at h
    show R.foldl put (put a l) v = a v
    rw [puts_get R (put a l) v h.2]
    unfold put
    rw [if_neg h.1]
theorem puts_some : ∀ (R : List Int) (a : As) (v : Nat), R.foldl put a v = none → a v = none
  | [], a, v, h => h
  | l :: R, a, v, h => by
    have := puts_some R (put a l) v h
    unfold put at this
    split at this
    · cases this
    · exact this
theorem unputs_puts {A : As} {R : List Int} (h : ∀ i (hi : i < R.length), lv ((R.take i).foldl put A) R[i] = none) : unputs (R.foldl put A) R = A := by
  funext v
  rw [unputs_get]
  by_cases e : v ∈ R.map Int.natAbs
  · rw [if_pos e]
    obtain ⟨l, hl, rfl⟩ := List.mem_map.1 e
    obtain ⟨i, hi, rfl⟩ := List.getElem_of_mem hl
    have := h i hi
    have h2 : ((R.take i).foldl put A) R[i].natAbs = none := by
      rw [lv_abs] at this
      split at this
      · exact this
      · cases hv : ((R.take i).foldl put A) R[i].natAbs with
        | none => rfl
        | some x => rw [hv] at this; cases this
    exact (puts_some _ _ _ h2).symm
  · rw [if_neg e, puts_get R A v e]
theorem Inv.cut {n : Nat} {F : Fm} {a V : As} {T : List Int} (h : Inv n F a V T) {k : Nat} (hk : k ≤ T.length) : unputs V (T.drop k) = asg (T.take k) := by
  have e : V = (T.drop k).foldl put (asg (T.take k)) := by rw [h.val, ← asg_append, List.take_append_drop]
  rw [e]
  refine unputs_puts fun i hi => ?_
  rw [List.length_drop] at hi
  have := h.new (k + i) (by omega)
  rw [List.getElem_drop, ← asg_append, ← List.take_add]
  exact this
theorem foldl_put_some : ∀ (R : List Int) (a : As) (v : Nat), v ∈ R.map Int.natAbs → R.foldl put a v ≠ none
  | [], a, v, h => absurd h (by simp)
  | l :: R, a, v, h => by
    intro e
    have h1 := puts_some R (put a l) v e
    by_cases e1 : v ∈ R.map Int.natAbs
    · exact foldl_put_some R (put a l) v e1 e
    · simp only [List.map_cons, List.mem_cons] at h
      have : v = l.natAbs := by rcases h with h | h; exact h; exact absurd h e1
      unfold put at h1
      rw [if_pos this] at h1; cases h1
theorem Inv.at {n : Nat} {F : Fm} {a V : As} {T : List Int} (h : Inv n F a V T) {k j : Nat} (hj : k + j < T.length) : lv (unputs V ((T.drop k).take j)) T[k + j] = some true := by
  have hn := h.new (k + j) hj
  have hl := h.lits _ (List.getElem_mem hj)
  have hnv : asg (T.take (k + j)) T[k + j].natAbs = none := by
    rw [lv_abs] at hn
    split at hn
    · exact hn
    · cases hv : asg (T.take (k + j)) T[k + j].natAbs with
      | none => rfl
      | some x => rw [hv] at hn; cases hn
  have hnot : T[k + j].natAbs ∉ ((T.drop k).take j).map Int.natAbs := fun hm => by
    refine foldl_put_some ((T.drop k).take j) (asg (T.take k)) _ hm ?_
    rw [← asg_append, ← List.take_add]; exact hnv
  have hV : lv V T[k + j] = some true := by
    have e : V = (T.drop (k + j + 1)).foldl put (put (asg (T.take (k + j))) T[k + j]) := by
      have e1 : T = T.take (k + j) ++ T[k + j] :: T.drop (k + j + 1) := by rw [← List.drop_eq_getElem_cons hj, List.take_append_drop]
      have e2 := asg_append (T.take (k + j)) (T[k + j] :: T.drop (k + j + 1))
      rw [← e1, ← h.val] at e2
      exact e2
    have hle : ∀ (R : List Int) (b : As), (∀ i (hi : i < R.length), lv ((R.take i).foldl put b) R[i] = none) → le b (R.foldl put b) := by
      intro R
      induction R with
      | nil => intro b _; exact le.refl b
      | cons l R ih =>
        intro b hb
        refine (le_put (hb 0 (by simp))).trans (ih (put b l) fun i hi => ?_)
        exact hb (i + 1) (by simpa using hi)
    have := hle (T.drop (k + j + 1)) (put (asg (T.take (k + j))) T[k + j]) fun i hi => by
      rw [List.length_drop] at hi
      have h2 := h.new (k + j + 1 + i) (by omega)
      have e3 : ((T.drop (k + j + 1)).take i).foldl put (put (asg (T.take (k + j))) T[k + j]) = asg (T.take (k + j + 1 + i)) := by
        rw [show T.take (k + j + 1 + i) = T.take (k + j + 1) ++ (T.drop (k + j + 1)).take i from List.take_add, asg_append, show T.take (k + j + 1) = T.take (k + j) ++ [T[k + j]] by rw [List.take_add_one, List.getElem?_eq_getElem hj, Option.toList_some], asg_append]; rfl
      rw [e3, List.getElem_drop]; exact h2
    rw [e]
    exact this.lv (lv_put hl.1)
  rw [lv_abs] at hV ⊢
  rw [unputs_get, if_neg hnot]
  exact hV
theorem Inv.next {V : As} {T : List Int} {k j : Nat} (hj : k + j < T.length) : unputs V ((T.drop k).take (j + 1)) = unput (unputs V ((T.drop k).take j)) T[k + j] := by
  rw [List.take_add_one, List.getElem?_drop, List.getElem?_eq_getElem hj, Option.toList_some]
  simp [unputs]
end Go.Z.Sat
/- Chapter 37: literals taken back. Conditions: none. -/
namespace Go.Proofs.YtopgbgnmjogeeaaGreatDoor
set_option maxRecDepth 8000
set_option linter.unusedVariables false
set_option linter.unusedSimpArgs false
set_option linter.unusedSectionVars false
open Go Go.Z Go.Z.Sat

end Go.Proofs.YtopgbgnmjogeeaaGreatDoor
/- Chapter 37: the model. Conditions: none. -/
namespace Go.Z.Sat
set_option maxRecDepth 8000
set_option linter.unusedVariables false
set_option linter.unusedSimpArgs false
set_option linter.unusedSectionVars false
open Go Go.Z
def mcells (n : Nat) (V : As) : List Value := (List.range n).map fun i => .bool (decide (V (i + 1) ≠ some false))
theorem mcells_len (n : Nat) (V : As) : (mcells n V).length = n := by simp [mcells]
theorem fill_step {l : List Value} {z v : Value} {n k : Nat} (hl : l.length = n) (hk : k < n) (hv : l[k]? = some v) : (l.take k ++ List.replicate (n - k) z).set k v = l.take (k + 1) ++ List.replicate (n - (k + 1)) z := by
  have e1 : n - k = (n - (k + 1)) + 1 := by omega
  rw [List.set_append_right _ _ (by rw [List.length_take]; omega), List.length_take, Nat.min_eq_left (by omega : k ≤ l.length), Nat.sub_self, e1, List.replicate_succ, List.set_cons_zero, List.take_add_one, hv]
  simp
end Go.Z.Sat
namespace Go.Proofs.YtopgbgnmjogeeaaGreatDoor
set_option maxRecDepth 8000
set_option linter.unusedVariables false
set_option linter.unusedSimpArgs false
set_option linter.unusedSectionVars false
open Go Go.Z Go.Z.Sat

end Go.Proofs.YtopgbgnmjogeeaaGreatDoor
/- Chapter 37: the stack of decisions, plain. Conditions: none. -/
namespace Go.Z.Sat
set_option maxRecDepth 8000
set_option linter.unusedVariables false
set_option linter.unusedSimpArgs false
set_option linter.unusedSectionVars false
open Go Go.Z

/-- a decision: variable, how many literals came ahead of it, reversed -/
abbrev De := Nat × Nat × Bool
def encD (e : De) : List Value := [.int .i64 e.1, .int .i64 e.2.1, .bool e.2.2]
theorem encD_len (e : De) : (encD e).length = 3 := rfl
def lvls (T : List Int) (D : List De) : List (Nat × As) := ((D.filter fun e => !e.2.2).map fun e => (e.1, asg (T.take e.2.1))).reverse
structure Stk (n : Nat) (F : Fm) (T : List Int) (D : List De) : Prop where
  inc : D.Pairwise fun x y => x.2.1 < y.2.1
  each : ∀ e ∈ D, e.2.1 < T.length ∧ Least n (asg (T.take e.2.1)) e.1 ∧ Fix F (asg (T.take e.2.1))
structure TI (n : Nat) (V : As) (T : List Int) : Prop where
  cnt : T.length + cnt n V = n
  lits : ∀ l ∈ T, okL n l
  val : V = asg T
  new : ∀ i (h : i < T.length), lv (asg (T.take i)) T[i] = none
theorem Inv.ti {n : Nat} {F : Fm} {a V : As} {T : List Int} (h : Inv n F a V T) : TI n V T := ⟨h.cnt, h.lits, h.val, h.new⟩
theorem TI.inv {n : Nat} {F : Fm} {V : As} {T : List Int} (h : TI n V T) : Inv n F V V T := ⟨Snd.refl F V, h.cnt, h.lits, h.val, h.new⟩
theorem cnt_none (n : Nat) : cnt n (fun _ => none) = n := by
  unfold Sat.cnt
  rw [show (List.range n).filter (fun i => ((fun _ => none : As) (i + 1)).isNone) = List.range n from List.filter_eq_self.2 (fun _ _ => rfl), List.length_range]
theorem TI.nil (n : Nat) : TI n (fun _ => none) [] := ⟨by rw [cnt_none]; simp, fun l h => absurd h List.not_mem_nil, rfl, fun i h => absurd h (Nat.not_lt_zero i)⟩
theorem TI.set {n : Nat} {V : As} {T : List Int} (h : TI n V T) {l : Int} (hl : okL n l) (hn : lv V l = none) : TI n (put V l) (T ++ [l]) := by
  refine ⟨?_, ?_, by rw [h.val]; simp [asg], ?_⟩
  · have := cnt_put hl hn
    have := h.cnt
    simp; omega
  · intro x hx
    rcases List.mem_append.1 hx with hx | hx
    · exact h.lits x hx
    · rw [List.mem_singleton.1 hx]; exact hl
  · intro i hi
    by_cases e : i < T.length
    · rw [List.getElem_append_left e, List.take_append_of_le_length (by omega)]; exact h.new i e
    · have : i = T.length := by simp at hi; omega
      subst this
      rw [List.take_left', List.getElem_append_right (Nat.le_refl _)]
      · simp; rw [← h.val]; exact hn
      · rfl
theorem TI.cut {n : Nat} {V : As} {T : List Int} (h : TI n V T) : ∀ {k : Nat}, k ≤ T.length → TI n (asg (T.take k)) (T.take k)
  | 0, _ => by rw [List.take_zero]; exact TI.nil n
  | k + 1, hk => by
    have ih := h.cut (k := k) (by omega)
    have := ih.set (h.lits _ (List.getElem_mem (show k < T.length by omega))) (h.new k (by omega))
    rw [List.take_add_one, List.getElem?_eq_getElem (show k < T.length by omega), Option.toList_some, asg_append]
    exact this

theorem take_pre {T T' : List Int} (h : T <+: T') {k : Nat} (hk : k ≤ T.length) : T'.take k = T.take k := by
  obtain ⟨R, rfl⟩ := h
  rw [List.take_append_of_le_length hk]
theorem lvls_congr {T T' : List Int} {D : List De} (h : ∀ e ∈ D, T'.take e.2.1 = T.take e.2.1) : lvls T' D = lvls T D := by
  unfold lvls
  congr 1
  refine List.map_congr_left fun e he => ?_
  rw [h e (List.mem_filter.1 he).1]
theorem Stk.grow {n : Nat} {F : Fm} {T T' : List Int} {D : List De} (h : Stk n F T D) (hp : T <+: T') : Stk n F T' D ∧ lvls T' D = lvls T D := by
  have e : ∀ e ∈ D, T'.take e.2.1 = T.take e.2.1 := fun e he => take_pre hp (Nat.le_of_lt (h.each e he).1)
  refine ⟨⟨h.inc, fun x hx => ?_⟩, lvls_congr e⟩
  rw [e x hx]
  exact ⟨Nat.lt_of_lt_of_le (h.each x hx).1 hp.length_le, (h.each x hx).2⟩
theorem lvls_snoc (T : List Int) (D : List De) (v b : Nat) (r : Bool) : lvls T (D ++ [(v, b, r)]) = if r then lvls T D else (v, asg (T.take b)) :: lvls T D := by
  unfold lvls
  rw [List.filter_append]
  cases r <;> simp
theorem Stk.cut {n : Nat} {F : Fm} {T : List Int} {D : List De} {v b : Nat} {r : Bool} (h : Stk n F T (D ++ [(v, b, r)])) (l : Int) : Stk n F (T.take b ++ [l]) (D ++ [(v, b, true)]) ∧ lvls (T.take b ++ [l]) (D ++ [(v, b, true)]) = lvls T D := by
  have hb := (h.each (v, b, r) (by simp)).1
  dsimp only at hb
  have hlt : ∀ e ∈ D, e.2.1 < b := fun e he => (List.pairwise_append.1 h.inc).2.2 e he (v, b, r) (by simp)
  have htk : ∀ k, k ≤ b → (T.take b ++ [l]).take k = T.take k := fun k hk => by
    rw [List.take_append_of_le_length (by rw [List.length_take]; omega), List.take_take, Nat.min_eq_left hk]
  refine ⟨⟨?_, fun e he => ?_⟩, ?_⟩
  · have := List.pairwise_append.1 h.inc
    refine List.pairwise_append.2 ⟨this.1, by simp, fun x hx y hy => ?_⟩
    rw [List.mem_singleton.1 hy]; exact hlt x hx
  · rw [List.length_append, List.length_take]
    rcases List.mem_append.1 he with he | he
    · have h1 := hlt e he
      rw [htk _ (by omega)]
      exact ⟨by simp; omega, (h.each e (List.mem_append_left _ he)).2⟩
    · rw [List.mem_singleton.1 he]
      dsimp only
      rw [htk _ (Nat.le_refl _)]
      exact ⟨by simp; omega, (h.each (v, b, r) (by simp)).2⟩
  · rw [lvls_snoc, if_pos rfl]
    exact lvls_congr fun e he => htk _ (by have := hlt e he; omega)
theorem Stk.init {n : Nat} {F : Fm} {T : List Int} {D E : List De} (h : Stk n F T (D ++ E)) : Stk n F T D := ⟨(List.pairwise_append.1 h.inc).1, fun e he => h.each e (by simp [he])⟩
theorem Stk.push {n : Nat} {F : Fm} {T : List Int} {D : List De} (h : Stk n F T D) {v : Nat} (hv : Least n (asg T) v) (hf : Fix F (asg T)) (l : Int) : Stk n F (T ++ [l]) (D ++ [(v, T.length, false)]) ∧ lvls (T ++ [l]) (D ++ [(v, T.length, false)]) = (v, asg T) :: lvls T D := by
  have hg := h.grow (T' := T ++ [l]) (List.prefix_append _ _)
  have ht : (T ++ [l]).take T.length = T := by rw [List.take_left']; rfl
  refine ⟨⟨?_, fun e he => ?_⟩, ?_⟩
  · refine List.pairwise_append.2 ⟨h.inc, by simp, fun x hx y hy => ?_⟩
    rw [List.mem_singleton.1 hy]; exact (h.each x hx).1
  · rcases List.mem_append.1 he with he | he
    · exact hg.1.each e he
    · rw [List.mem_singleton.1 he]
      dsimp only
      rw [ht]
      exact ⟨by simp, hv, hf⟩
  · rw [lvls_snoc, if_neg (by simp), ht, hg.2]
theorem inc_len : ∀ (D : List De) (k m : Nat), (∀ e ∈ D, k ≤ e.2.1 ∧ e.2.1 < m) → D.Pairwise (fun x y => x.2.1 < y.2.1) → D = [] ∨ D.length + k ≤ m
  | [], _, _, _, _ => .inl rfl
  | e :: D, k, m, h, hp => by
    right
    have h1 := h e (by simp)
    rcases inc_len D (e.2.1 + 1) m (fun x hx => ⟨List.rel_of_pairwise_cons hp hx, (h x (by simp [hx])).2⟩) (List.Pairwise.of_cons hp) with rfl | h2
    · simp; omega
    · rw [List.length_cons]; omega
theorem Stk.len {n : Nat} {F : Fm} {T : List Int} {D : List De} (h : Stk n F T D) : D.length ≤ T.length := by
  rcases inc_len D 0 T.length (fun e he => ⟨Nat.zero_le _, (h.each e he).1⟩) h.inc with rfl | h
  · simp
  · omega
theorem Stk.okS {n : Nat} {F : Fm} {T : List Int} {D : List De} (h : Stk n F T D) : okS n (lvls T D) := by
  intro p hp
  unfold lvls at hp
  obtain ⟨e, he, rfl⟩ := List.mem_map.1 (List.mem_reverse.1 hp)
  have := (h.each e (List.mem_filter.1 he).1).2.1
  exact ⟨this.1, this.2.1⟩
theorem lvls_drop {T : List Int} {D : List De} {j : Nat} (h : ∀ i (hi : i < D.length), j ≤ i → D[i].2.2 = true) : lvls T D = lvls T (D.take j) := by
  conv => lhs; rw [← List.take_append_drop j D]
  unfold lvls
  have e0 : (D.drop j).filter (fun e => !e.2.2) = [] := List.filter_eq_nil_iff.2 fun e he => by
    obtain ⟨i, hi, rfl⟩ := List.getElem_of_mem he
    rw [List.length_drop] at hi
    rw [List.getElem_drop, h (j + i) (by omega) (by omega)]; simp
  rw [List.filter_append, e0, List.append_nil]
theorem dcell {D : List De} {k : Nat} (hk : k < D.length) {j i : Nat} (hj : j < 3) (hi : i = k * 3 + j) : (D.flatMap encD)[i]? = (encD D[k])[j]? := by
  subst hi
  have := (rows_at encD 3 encD_len D k hk).1
  rw [← this, List.getElem?_take, if_pos hj, List.getElem?_drop]
theorem own_at3 {cur xs : List Value} {N i : Nat} {v : Value} (h : cur.take N = xs) (hv : xs[i]? = some v) : cur[i]? = some v := by
  rw [← h, List.getElem?_take] at hv
  split at hv
  · exact hv
  · cases hv
theorem dec_set {D : List De} {cur : List Value} {N k i : Nat} {v b : Nat} {r : Bool} (h : cur.take N = D.flatMap encD) (hk : k < D.length) (he : D[k] = (v, b, r)) (hi : i = k * 3 + 2) : (cur.set i (.bool true)).take ((k + 1) * 3) = (D.take k ++ [(v, b, true)]).flatMap encD := by
  subst hi
  have hl := rows_len encD 3 encD_len D
  have hNl := congrArg List.length h
  rw [List.length_take, hl] at hNl
  have hle : (k + 1) * 3 ≤ D.length * 3 := Nat.mul_le_mul_right 3 hk
  have e1 : cur.take ((k + 1) * 3) = (D.take (k + 1)).flatMap encD := by
    rw [← rows_take encD 3 encD_len D (k + 1) hk, ← h, List.take_take, Nat.min_eq_left (by omega)]
  rw [List.take_set, e1, List.take_add_one, List.getElem?_eq_getElem hk, Option.toList_some, List.flatMap_append, List.flatMap_append, he]
  have hl2 := rows_len encD 3 encD_len (D.take k)
  rw [List.length_take, Nat.min_eq_left (Nat.le_of_lt hk)] at hl2
  rw [List.set_append_right _ _ (by omega), hl2, show k * 3 + 2 - k * 3 = 2 by omega]
  rfl

theorem trues_sat (F : Fm) (V : As) : (trues F V).count 0 = 0 ↔ satF F V := by
  unfold trues satF
  rw [List.count_eq_zero, List.mem_map]
  constructor
  · intro h c hc
    have h1 : c.countP (fun l => decide (lv V l = some true)) ≠ 0 := fun e => h ⟨c, hc, e⟩
    obtain ⟨l, h2, h3⟩ := List.countP_pos_iff.1 (Nat.pos_of_ne_zero h1)
    exact ⟨l, h2, by simpa using h3⟩
  · rintro h ⟨c, hc, e⟩
    obtain ⟨l, h1, h2⟩ := h c hc
    have := List.countP_pos_iff (p := fun l => decide (lv V l = some true)).2 ⟨l, h1, by simpa using h2⟩
    omega
theorem lv_none {a : As} {l : Int} : lv a l = none ↔ a l.natAbs = none := by
  rw [lv_abs]
  split
  · exact Iff.rfl
  · cases a l.natAbs <;> simp
theorem Fix.open {n : Nat} {F : Fm} {V : As} (hF : okF n F) (h : Fix F V) (hs : ¬ satF F V) : ∃ v, 1 ≤ v ∧ v ≤ n ∧ V v = none := by
  by_cases hx : ∃ v, 1 ≤ v ∧ v ≤ n ∧ V v = none
  · exact hx
  · exfalso
    apply hs
    intro c hc
    rcases h c hc with h1 | ⟨l, h1, _, _, _, h2, _⟩
    · exact h1
    · have := hF c hc l h1
      exact absurd ⟨l.natAbs, by have := this.1; omega, by have := this.2; omega, lv_none.1 h2⟩ hx
theorem Fix.pend {n : Nat} {F : Fm} (hF : okF n F) {V : As} (h : Fix F V) {T : List Int} {l : Int} (hl : l ≠ 0) (hn : lv V l = none) : ∀ c ∈ F, Pend (put V l) (T ++ [l]) T.length c := fun c hc =>
  Pend.mono (.inl (h c hc)) (fun m hm => (hF c hc m hm).1) hl hn (Nat.le_refl _)

/-- results -/
def ocode : Out → Int
  | .unk => 0
  | .sat _ => 1
  | .uns => 2
def ocells (n : Nat) : Out → List Value
  | .sat b => mcells n b
  | _ => []
end Go.Z.Sat
/- Chapter 37: the steps of the search, plain. Conditions: none. -/
namespace Go.Z.Sat
set_option maxRecDepth 8000
set_option linter.unusedVariables false
set_option linter.unusedSimpArgs false
set_option linter.unusedSectionVars false
open Go Go.Z

structure SS where
  b : Bool
  a : As
  V : As
  T : List Int
  d : Nat
  D : List De
  k : Int
  v : Nat
  la : Option Addr
  lc : Nat
def SS.L (x : SS) : List (Nat × As) := lvls x.T x.D
structure SI (n : Nat) (F : Fm) (bud : Int) (x : SS) : Prop where
  inv : Inv n F x.a x.V x.T
  stk : Stk n F x.T x.D
  no : x.b = false → PR F x.a none
  yes : x.b = true → x.d = x.T.length ∧ PR F x.a (some x.V) ∧ ∀ u, 1 ≤ u → u < x.v → x.V u ≠ none
  v1 : 1 ≤ x.v ∧ x.v ≤ n + 1
  kk : 0 ≤ x.k ∧ x.k ≤ bud
  res : ∀ r, Reach F n bud x.a x.L x.k r → Reach F n bud (fun _ => none) [] 0 r
def SS.mu (n : Nat) (x : SS) : Nat := meas n x.a x.L

theorem le_ne {a b : As} (h : le a b) {u : Nat} (e : a u ≠ none) : b u ≠ none := by
  cases ha : a u with
  | none => exact absurd ha e
  | some y => rw [h u y ha]; simp
theorem lvls_at {T : List Int} {D : List De} {j : Nat} {v b : Nat} (hj : j < D.length) (he : D[j] = (v, b, false)) (hr : ∀ i (hi : i < D.length), j + 1 ≤ i → D[i].2.2 = true) : lvls T D = (v, asg (T.take b)) :: lvls T (D.take j) := by
  rw [lvls_drop hr, List.take_add_one, List.getElem?_eq_getElem hj, Option.toList_some, he, lvls_snoc, if_neg (by simp)]
theorem SI.back {n : Nat} {F : Fm} {bud : Int} {x : SS} (h : SI n F bud x) (hb : x.b = false) {j v b : Nat} (hj : j < x.D.length) (he : x.D[j] = (v, b, false)) (hr : ∀ i (hi : i < x.D.length), j + 1 ≤ i → x.D[i].2.2 = true)
    {V' : As} {T' : List Int} {d' : Nat} {b' : Bool} {la : Option Addr} {lc : Nat} (hI : Inv n F (put (asg (x.T.take b)) (-(v : Int))) V' T') (hp : (x.T.take b ++ [-(v : Int)]) <+: T') (hn : b' = false → PR F (put (asg (x.T.take b)) (-(v : Int))) none) (hy : b' = true → d' = T'.length ∧ PR F (put (asg (x.T.take b)) (-(v : Int))) (some V')) :
    SI n F bud ⟨b', put (asg (x.T.take b)) (-(v : Int)), V', T', d', x.D.take j ++ [(v, b, true)], x.k, v, la, lc⟩ ∧ SS.mu n ⟨b', put (asg (x.T.take b)) (-(v : Int)), V', T', d', x.D.take j ++ [(v, b, true)], x.k, v, la, lc⟩ < x.mu n := by
  have hs : Stk n F x.T (x.D.take j ++ [(v, b, false)]) := by
    have e : x.D = (x.D.take j ++ [(v, b, false)]) ++ x.D.drop (j + 1) := by
      rw [List.append_assoc, List.singleton_append, ← he, ← List.drop_eq_getElem_cons hj, List.take_append_drop]
    have := h.stk
    rw [e] at this
    exact this.init
  obtain ⟨hc1, hc2⟩ := hs.cut (-(v : Int))
  obtain ⟨hg1, hg2⟩ := hc1.grow hp
  have hlv := lvls_at (T := x.T) hj he hr
  obtain ⟨_, hle, _⟩ := hs.each (v, b, false) (by simp)
  dsimp only at hle
  have hneg : lv (asg (x.T.take b)) (-(v : Int)) = none := by rw [lv_negv, hle.2.1]; rfl
  have hres : ∀ r, Reach F n bud (put (asg (x.T.take b)) (-(v : Int))) (lvls x.T (x.D.take j)) x.k r → Reach F n bud (fun _ => none) [] 0 r := fun r hr => h.res r (by unfold SS.L; rw [hlv]; exact .back (h.no hb) hr)
  refine ⟨⟨hI, hg1, hn, fun hb => ⟨(hy hb).1, (hy hb).2, fun u h1 h2 => le_ne (hI.snd.1) (le_ne (le_put hneg) (hle.2.2 u h1 h2))⟩, ⟨hle.1.1, by have := hle.1.2; dsimp only; omega⟩, h.kk, fun r hr => hres r ?_⟩, ?_⟩
  · unfold SS.L at hr
    dsimp only at hr
    rw [hg2, hc2] at hr
    exact hr
  · unfold SS.mu SS.L
    dsimp only
    rw [hg2, hc2, hlv]
    have := h.stk.okS
    rw [hlv] at this
    exact meas_back this
theorem SI.dec {n : Nat} {F : Fm} {bud : Int} {x : SS} (h : SI n F bud x) (hb : x.b = true) (hs : ¬ satF F x.V) (hk : x.k ≠ bud) {v : Nat} (hv : Least n x.V v)
    {V' : As} {T' : List Int} {d' : Nat} {b' : Bool} {la : Option Addr} {lc : Nat} (hI : Inv n F (put x.V (v : Int)) V' T') (hp : (x.T ++ [(v : Int)]) <+: T') (hn : b' = false → PR F (put x.V (v : Int)) none) (hy : b' = true → d' = T'.length ∧ PR F (put x.V (v : Int)) (some V')) :
    SI n F bud ⟨b', put x.V (v : Int), V', T', d', x.D ++ [(v, x.T.length, false)], x.k + 1, v, la, lc⟩ ∧ SS.mu n ⟨b', put x.V (v : Int), V', T', d', x.D ++ [(v, x.T.length, false)], x.k + 1, v, la, lc⟩ < x.mu n := by
  obtain ⟨hd, hpr, _⟩ := h.yes hb
  have hval := h.inv.val
  obtain ⟨hc1, hc2⟩ := h.stk.push (v := v) (by rw [← hval]; exact hv) (by rw [← hval]; exact hpr.2.2) (v : Int)
  obtain ⟨hg1, hg2⟩ := hc1.grow hp
  have hpos : lv x.V (v : Int) = none := by rw [lv_pos _ hv.1.1]; exact hv.2.1
  have hkk := h.kk
  refine ⟨⟨hI, hg1, hn, fun hb => ⟨(hy hb).1, (hy hb).2, fun u h1 h2 => le_ne (hI.snd.1) (le_ne (le_put hpos) (hv.2.2 u h1 h2))⟩, ⟨hv.1.1, by have := hv.1.2; dsimp only; omega⟩, ⟨by dsimp only; omega, by dsimp only; omega⟩, fun r hr => h.res r ?_⟩, ?_⟩
  · unfold SS.L at hr
    dsimp only at hr
    rw [hg2, hc2, ← hval] at hr
    exact .dec hpr hs hk hv hr
  · unfold SS.mu SS.L
    dsimp only
    rw [hg2, hc2, ← hval]
    exact meas_dec hpr.1 hv
end Go.Z.Sat
namespace Go.Proofs.YtopgbgnmjogeeaaGreatDoor
set_option maxRecDepth 8000
set_option linter.unusedVariables false
set_option linter.unusedSimpArgs false
set_option linter.unusedSectionVars false
open Go Go.Z Go.Z.Sat
end Go.Proofs.YtopgbgnmjogeeaaGreatDoor
/- Chapter 37: the search. Conditions: none. -/
namespace Go.Proofs.YtopgbgnmjogeeaaGreatDoor
set_option maxRecDepth 8000
set_option linter.unusedVariables false
set_option linter.unusedSimpArgs false
set_option linter.unusedSectionVars false
open Go Go.Z Go.Z.Sat

end Go.Proofs.YtopgbgnmjogeeaaGreatDoor
/- Chapter 37: the rows of uses, as they grow. Conditions: none. -/
namespace Go.Z.Sat
set_option maxRecDepth 8000
set_option linter.unusedVariables false
set_option linter.unusedSimpArgs false
set_option linter.unusedSectionVars false
open Go Go.Z Go.Proofs.YtopgbgnmjogeeaaGreatDoor

theorem useRow_append (A : Fm) (c : Cl) (k : Int) : useRow (A ++ [c]) k = useRow A k ++ (c.filter fun x => decide (uix x = k)).map fun _ => A.length := by
  unfold useRow
  rw [List.zipIdx_append, List.flatMap_append]
  simp
theorem useRow_lit (A : Fm) (c : Cl) (l : Int) (k : Int) : useRow (A ++ [c ++ [l]]) k = useRow (A ++ [c]) k ++ if uix l = k then [A.length] else [] := by
  rw [useRow_append, useRow_append, List.filter_append, List.map_append, List.append_assoc]
  congr 2
  by_cases h : uix l = k <;> simp [h]
theorem useRow_pre (F : Fm) {i : Nat} (hi : i < F.length) (j : Nat) (k : Int) : (useRow (F.take i ++ [F[i].take j]) k).length ≤ (useRow F k).length := by
  have e : F = (F.take i ++ [F[i]]) ++ F.drop (i + 1) := by
    rw [List.append_assoc, List.singleton_append, ← List.drop_eq_getElem_cons hi, List.take_append_drop]
  have h1 : (useRow (F.take i ++ [F[i]]) k).length ≤ (useRow F k).length := by
    conv => rhs; rw [e]
    unfold useRow
    rw [List.zipIdx_append (xs := F.take i ++ [F[i]]), List.flatMap_append, List.length_append]
    omega
  refine Nat.le_trans ?_ h1
  rw [useRow_append, useRow_append, List.length_append, List.length_append, List.length_map, List.length_map]
  have := ((List.take_sublist j F[i]).filter fun x => decide (uix x = k)).length_le
  omega
theorem usesV_len (n : Nat) (F : Fm) : (usesV n F).length = 2 * n + 2 := by simp [usesV, uses]
theorem uix_lt {n : Nat} {l : Int} (h : okL n l) : 0 ≤ uix l ∧ uix l < 2 * n + 2 := by unfold uix; have := h.2; split <;> omega
theorem usesV_get {n : Nat} (F : Fm) {k : Nat} (h : k < 2 * n + 2) : (usesV n F)[k]'(by rw [usesV_len]; exact h) = (useRow F k).map encN := by
  simp only [usesV, uses, List.getElem_map, List.getElem_range]
theorem usesV_nil (n : Nat) : usesV n [] = List.replicate (2 * n + 2) [] := by
  refine List.ext_getElem (by rw [usesV_len, List.length_replicate]) fun k h1 h2 => ?_
  rw [usesV_get _ (by rw [usesV_len] at h1; exact h1), List.getElem_replicate]; rfl
theorem usesV_empty (n : Nat) (A : Fm) : usesV n (A ++ [[]]) = usesV n A := by
  refine List.ext_getElem (by rw [usesV_len, usesV_len]) fun k h1 h2 => ?_
  rw [usesV_len] at h1
  rw [usesV_get _ h1, usesV_get _ h1, useRow_append]; simp
theorem usesV_step {n : Nat} (A : Fm) (c : Cl) {l : Int} (hl : okL n l) {r : List Value} (hr : r = (useRow (A ++ [c]) (uix l)).map encN ++ [encN A.length]) : (usesV n (A ++ [c])).set (uix l).toNat r = usesV n (A ++ [c ++ [l]]) := by
  have hu := uix_lt hl
  refine List.ext_getElem (by rw [List.length_set, usesV_len, usesV_len]) fun k h1 h2 => ?_
  rw [usesV_len] at h2
  rw [List.getElem_set, usesV_get _ h2, usesV_get _ h2, useRow_lit]
  by_cases e : (uix l).toNat = k
  · rw [if_pos e, hr, if_pos (by omega)]
    have : uix l = (k : Int) := by omega
    rw [this, List.map_append]; rfl
  · rw [if_neg e, if_neg (by omega), List.append_nil]
theorem trues_none (F : Fm) : trues F (fun _ => none) = List.replicate F.length 0 := by
  refine List.ext_getElem (by simp [trues]) fun k h1 h2 => ?_
  simp only [trues, List.getElem_map, List.getElem_replicate]
  rw [List.countP_eq_zero]
  intro l _
  simp [lv]
theorem vcells_none (n : Nat) : vcells n (fun _ => none) = List.replicate (n + 1) (.int .i64 0) := by
  refine List.ext_getElem (by simp [vcells]) fun k h1 h2 => ?_
  simp [vcells, vcode]
end Go.Z.Sat
namespace Go.Z
set_option maxRecDepth 8000
set_option linter.unusedVariables false
set_option linter.unusedSimpArgs false
set_option linter.unusedSectionVars false
open Go
variable {P : Program} {M : Mx} {n : Nat} {L : Fr} {H H' : List Assn} {T : Act → World → Prop}
theorem g_rowO {ei : TypeId} {hs : List (Option Addr × Nat)} {rows : List (List Value)} (h : hs.length = rows.length) {j : Nat} (hj : j < rows.length)
    (k : G M n L (OwnSl ei 1 (hs[j]'(by omega)).1 rows[j].length (hs[j]'(by omega)).2 rows[j] :: ((inns ei hs rows).eraseIdx j ++ H)) T) : G M n L (inns ei hs rows ++ H) T := g_row h hj k
theorem g_unrowO {ei : TypeId} {hs : List (Option Addr × Nat)} {rows : List (List Value)} (h : hs.length = rows.length) {j : Nat} (hj : j < rows.length) (a : Option Addr) (c : Nat) (r : List Value)
    (k : G M n L (inns ei (hs.set j (a, c)) (rows.set j r) ++ H) T) : G M n L (OwnSl ei 1 a r.length c r :: ((inns ei hs rows).eraseIdx j ++ H)) T := g_unrow h hj (a, c) r k
end Go.Z
/- Chapter 37: a new solver. Conditions: none. -/
namespace Go.Proofs.YtopgbgnmjogeeaaGreatDoor
set_option maxRecDepth 8000
set_option linter.unusedVariables false
set_option linter.unusedSimpArgs false
set_option linter.unusedSectionVars false
open Go Go.Z Go.Z.Sat

end Go.Proofs.YtopgbgnmjogeeaaGreatDoor
/- Chapter 37: Solve. Conditions: none. -/
namespace Go.Z.Sat
set_option maxRecDepth 8000
set_option linter.unusedVariables false
set_option linter.unusedSimpArgs false
set_option linter.unusedSectionVars false
open Go Go.Z Go.Proofs.YtopgbgnmjogeeaaGreatDoor
/-- what Solve answers -/
def Sol (n : Int) (F : Fm) (bud : Int) (code : Int) (cells : List Value) (e : Int) : Prop :=
  (bud < 0 ∧ code = 0 ∧ cells = [] ∧ e = 2) ∨ (0 ≤ bud ∧ check1 n F ≠ 0 ∧ code = 0 ∧ cells = [] ∧ e = check1 n F) ∨
  (0 ≤ bud ∧ check1 n F = 0 ∧ e = 0 ∧ ∃ r, Sat.Reach F n.toNat bud (fun _ => none) [] 0 r ∧ code = ocode r ∧ cells = ocells n.toNat r)
theorem check1_nonneg {n : Int} {F : Fm} (h : check1 n F = 0) : 0 ≤ n ∧ n ≤ 262144 := by
  unfold check1 at h
  split at h
  · cases h
  · split at h
    · cases h
    · omega
theorem Sol.unique {n : Int} {F : Fm} {bud c1 c2 e1 e2 : Int} {x1 x2 : List Value} (hO : check1 n F = 0 → okF n.toNat F) (h : Sol n F bud c1 x1 e1) (k : Sol n F bud c2 x2 e2) : c1 = c2 ∧ x1 = x2 ∧ e1 = e2 := by
  rcases h with ⟨h1, rfl, rfl, rfl⟩ | ⟨h1, h2, rfl, rfl, rfl⟩ | ⟨h1, h2, rfl, r, h3, rfl, rfl⟩
  · rcases k with ⟨k1, rfl, rfl, rfl⟩ | ⟨k1, k2, rfl, rfl, rfl⟩ | ⟨k1, k2, rfl, s, k3, rfl, rfl⟩
    · exact ⟨rfl, rfl, rfl⟩
    · omega
    · omega
  · rcases k with ⟨k1, rfl, rfl, rfl⟩ | ⟨k1, k2, rfl, rfl, rfl⟩ | ⟨k1, k2, rfl, s, k3, rfl, rfl⟩
    · omega
    · exact ⟨rfl, rfl, rfl⟩
    · exact absurd k2 h2
  · rcases k with ⟨k1, rfl, rfl, rfl⟩ | ⟨k1, k2, rfl, rfl, rfl⟩ | ⟨k1, k2, rfl, s, k3, rfl, rfl⟩
    · omega
    · exact absurd h2 k2
    · cases h3.unique (hO h2) k3; exact ⟨rfl, rfl, rfl⟩
end Go.Z.Sat
namespace Go.Proofs.YtopgbgnmjogeeaaGreatDoor
set_option maxRecDepth 8000
set_option linter.unusedVariables false
set_option linter.unusedSimpArgs false
set_option linter.unusedSectionVars false
open Go Go.Z Go.Z.Sat

def SolP (n : Int) (F : Fm) (bud : Int) (v : Value) (H : List Assn) : Prop := ∃ code cells a c e, Sol n F bud code cells e ∧ v = .tuple #[.int .i64 code, .slice a cells.length c, .int .i64 e] ∧ H = [OwnSl 4 1 a cells.length c cells]

end Go.Proofs.YtopgbgnmjogeeaaGreatDoor
/- Chapter 37: Unit. Conditions: none. -/
namespace Go.Z.Sat
set_option maxRecDepth 8000
set_option linter.unusedVariables false
set_option linter.unusedSimpArgs false
set_option linter.unusedSectionVars false
open Go Go.Z Go.Proofs.YtopgbgnmjogeeaaGreatDoor
def ulit (b : As) (i : Nat) : List Int := match b (i + 1) with
  | some true => [((i + 1 : Nat) : Int)]
  | some false => [-((i + 1 : Nat) : Int)]
  | none => []
def ulits (n : Nat) (b : As) : List Int := (List.range n).flatMap (ulit b)
theorem ulits_succ (n : Nat) (b : As) : ulits (n + 1) b = ulits n b ++ ulit b n := by simp [ulits, List.range_succ]
theorem ulits_len (n : Nat) (b : As) : (ulits n b).length ≤ n := by
  induction n with
  | zero => simp [ulits]
  | succ n ih =>
    rw [ulits_succ, List.length_append]
    have : (ulit b n).length ≤ 1 := by unfold ulit; split <;> simp
    omega
def uout (n : Nat) : Option As → List Int
  | none => []
  | some b => ulits n b
def UR (F : Fm) (ls : List Int) (r : Option As) : Prop := ((setF (fun _ => none) [] ls).1 = false ∧ r = none) ∨ ((setF (fun _ => none) [] ls).1 = true ∧ PR F (setF (fun _ => none) [] ls).2.1 r)
/-- what Unit answers -/
def UnS (n : Int) (F : Fm) (ls : List Int) (out : List Int) (ok : Bool) (e : Int) : Prop :=
  (check1 n F ≠ 0 ∧ out = [] ∧ ok = false ∧ e = check1 n F) ∨ (check1 n F = 0 ∧ ls.all (okB n) = false ∧ out = [] ∧ ok = false ∧ e = 14) ∨
  (check1 n F = 0 ∧ ls.all (okB n) = true ∧ e = 0 ∧ ∃ r, UR F ls r ∧ out = uout n.toNat r ∧ ok = r.isSome)
theorem UR.unique {n : Nat} {F : Fm} (hF : okF n F) {ls : List Int} {r s : Option As} (h : UR F ls r) (k : UR F ls s) : r = s := by
  rcases h with ⟨h1, rfl⟩ | ⟨h1, h2⟩ <;> rcases k with ⟨k1, rfl⟩ | ⟨k1, k2⟩
  · rfl
  · rw [h1] at k1; cases k1
  · rw [h1] at k1; cases k1
  · exact h2.unique hF k2
theorem UnS.unique {n : Int} {F : Fm} {ls o1 o2 : List Int} {b1 b2 : Bool} {e1 e2 : Int} (hO : check1 n F = 0 → okF n.toNat F) (h : UnS n F ls o1 b1 e1) (k : UnS n F ls o2 b2 e2) : o1 = o2 ∧ b1 = b2 ∧ e1 = e2 := by
  rcases h with ⟨h1, rfl, rfl, rfl⟩ | ⟨h1, h2, rfl, rfl, rfl⟩ | ⟨h1, h2, rfl, r, h3, rfl, rfl⟩
  · rcases k with ⟨k1, rfl, rfl, rfl⟩ | ⟨k1, k2, rfl, rfl, rfl⟩ | ⟨k1, k2, rfl, s, k3, rfl, rfl⟩
    · exact ⟨rfl, rfl, rfl⟩
    · exact absurd k1 h1
    · exact absurd k1 h1
  · rcases k with ⟨k1, rfl, rfl, rfl⟩ | ⟨k1, k2, rfl, rfl, rfl⟩ | ⟨k1, k2, rfl, s, k3, rfl, rfl⟩
    · exact absurd h1 k1
    · exact ⟨rfl, rfl, rfl⟩
    · rw [h2] at k2; cases k2
  · rcases k with ⟨k1, rfl, rfl, rfl⟩ | ⟨k1, k2, rfl, rfl, rfl⟩ | ⟨k1, k2, rfl, s, k3, rfl, rfl⟩
    · exact absurd h1 k1
    · rw [h2] at k2; cases k2
    · cases h3.unique (hO h1) k3; exact ⟨rfl, rfl, rfl⟩
theorem setF_ti {n : Nat} : ∀ (ls : List Int) (V : As) (T : List Int), TI n V T → (∀ l ∈ ls, okL n l) → TI n (setF V T ls).2.1 (setF V T ls).2.2
  | [], V, T, h, _ => h
  | l :: ls, V, T, h, hl => by
    rw [setF_cons]
    cases hv : lv V l with
    | none => exact setF_ti ls _ _ (h.set (hl l (by simp)) hv) fun x hx => hl x (by simp [hx])
    | some y => cases y with
      | true => exact setF_ti ls _ _ h fun x hx => hl x (by simp [hx])
      | false => exact h
theorem okB_okL {n : Nat} {l : Int} (h : okB n l = true) : okL n l := by
  unfold okB at h
  simp at h
  exact ⟨h.1, by omega, by omega⟩
end Go.Z.Sat
namespace Go.Proofs.YtopgbgnmjogeeaaGreatDoor
set_option maxRecDepth 8000
set_option linter.unusedVariables false
set_option linter.unusedSimpArgs false
set_option linter.unusedSectionVars false
open Go Go.Z Go.Z.Sat

def UnP (n : Int) (F : Fm) (ls : List Int) (v : Value) (H : List Assn) : Prop := ∃ out a c ok e, UnS n F ls out ok e ∧ v = .tuple #[.slice a out.length c, .bool ok, .int .i64 e] ∧ H = [OwnSl 3 1 a out.length c (out.map encI)]

end Go.Proofs.YtopgbgnmjogeeaaGreatDoor
