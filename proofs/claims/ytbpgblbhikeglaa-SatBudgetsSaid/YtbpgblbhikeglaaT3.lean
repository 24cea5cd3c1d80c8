/- Chapter 37: the stack of decisions, plain. Conditions: none. -/
import Derived.Test.YtbpgblbhikeglaaT2
namespace Go.Z.Sat
set_option linter.unusedVariables false
set_option linter.unusedSimpArgs false
set_option linter.unusedSectionVars false
open Go Go.Z

/-- a decision: variable, how many literals came ahead of it, reversed -/
abbrev De := Nat × Nat × Bool
def encD (e : De) : List Value := [.int .i64 e.1, .int .i64 e.2.1, .bool e.2.2]
theorem encD_len (e : De) : (encD e).length = 3 := rfl
def lvls (T : List Int) (D : List De) : List (Nat × As) := ((D.filter fun e => !e.2.2).map fun e => (e.1, asg (T.take e.2.1))).reverse
structure Stk (n : Nat) (F : Fm) (T : List Int) (D : List De) : Prop where
  inc : D.Pairwise fun x y => x.2.1 < y.2.1
  each : ∀ e ∈ D, e.2.1 < T.length ∧ Least n (asg (T.take e.2.1)) e.1 ∧ Fix F (asg (T.take e.2.1))
structure TI (n : Nat) (V : As) (T : List Int) : Prop where
  cnt : T.length + cnt n V = n
  lits : ∀ l ∈ T, okL n l
  val : V = asg T
  new : ∀ i (h : i < T.length), lv (asg (T.take i)) T[i] = none
theorem Inv.ti {n : Nat} {F : Fm} {a V : As} {T : List Int} (h : Inv n F a V T) : TI n V T := ⟨h.cnt, h.lits, h.val, h.new⟩
theorem TI.inv {n : Nat} {F : Fm} {V : As} {T : List Int} (h : TI n V T) : Inv n F V V T := ⟨Snd.refl F V, h.cnt, h.lits, h.val, h.new⟩
theorem cnt_none (n : Nat) : cnt n (fun _ => none) = n := by
  unfold Sat.cnt
  rw [show (List.range n).filter (fun i => ((fun _ => none : As) (i + 1)).isNone) = List.range n from List.filter_eq_self.2 (fun _ _ => rfl), List.length_range]
theorem TI.nil (n : Nat) : TI n (fun _ => none) [] := ⟨by rw [cnt_none]; simp, fun l h => absurd h List.not_mem_nil, rfl, fun i h => absurd h (Nat.not_lt_zero i)⟩
theorem TI.set {n : Nat} {V : As} {T : List Int} (h : TI n V T) {l : Int} (hl : okL n l) (hn : lv V l = none) : TI n (put V l) (T ++ [l]) := by
  refine ⟨?_, ?_, by rw [h.val]; simp [asg], ?_⟩
  · have := cnt_put hl hn
    have := h.cnt
    simp; omega
  · intro x hx
    rcases List.mem_append.1 hx with hx | hx
    · exact h.lits x hx
    · rw [List.mem_singleton.1 hx]; exact hl
  · intro i hi
    by_cases e : i < T.length
    · rw [List.getElem_append_left e, List.take_append_of_le_length (by omega)]; exact h.new i e
    · have : i = T.length := by simp at hi; omega
      subst this
      rw [List.take_left', List.getElem_append_right (Nat.le_refl _)]
      · simp; rw [← h.val]; exact hn
      · rfl
theorem TI.cut {n : Nat} {V : As} {T : List Int} (h : TI n V T) : ∀ {k : Nat}, k ≤ T.length → TI n (asg (T.take k)) (T.take k)
  | 0, _ => by rw [List.take_zero]; exact TI.nil n
  | k + 1, hk => by
    have ih := h.cut (k := k) (by omega)
    have := ih.set (h.lits _ (List.getElem_mem (show k < T.length by omega))) (h.new k (by omega))
    rw [List.take_add_one, List.getElem?_eq_getElem (show k < T.length by omega), Option.toList_some, asg_append]
    exact this

theorem take_pre {T T' : List Int} (h : T <+: T') {k : Nat} (hk : k ≤ T.length) : T'.take k = T.take k := by
  obtain ⟨R, rfl⟩ := h
  rw [List.take_append_of_le_length hk]
theorem lvls_congr {T T' : List Int} {D : List De} (h : ∀ e ∈ D, T'.take e.2.1 = T.take e.2.1) : lvls T' D = lvls T D := by
  unfold lvls
  congr 1
  refine List.map_congr_left fun e he => ?_
  rw [h e (List.mem_filter.1 he).1]
theorem Stk.grow {n : Nat} {F : Fm} {T T' : List Int} {D : List De} (h : Stk n F T D) (hp : T <+: T') : Stk n F T' D ∧ lvls T' D = lvls T D := by
  have e : ∀ e ∈ D, T'.take e.2.1 = T.take e.2.1 := fun e he => take_pre hp (Nat.le_of_lt (h.each e he).1)
  refine ⟨⟨h.inc, fun x hx => ?_⟩, lvls_congr e⟩
  rw [e x hx]
  exact ⟨Nat.lt_of_lt_of_le (h.each x hx).1 hp.length_le, (h.each x hx).2⟩
theorem lvls_snoc (T : List Int) (D : List De) (v b : Nat) (r : Bool) : lvls T (D ++ [(v, b, r)]) = if r then lvls T D else (v, asg (T.take b)) :: lvls T D := by
  unfold lvls
  rw [List.filter_append]
  cases r <;> simp
theorem Stk.cut {n : Nat} {F : Fm} {T : List Int} {D : List De} {v b : Nat} {r : Bool} (h : Stk n F T (D ++ [(v, b, r)])) (l : Int) : Stk n F (T.take b ++ [l]) (D ++ [(v, b, true)]) ∧ lvls (T.take b ++ [l]) (D ++ [(v, b, true)]) = lvls T D := by
  have hb := (h.each (v, b, r) (by simp)).1
  dsimp only at hb
  have hlt : ∀ e ∈ D, e.2.1 < b := fun e he => (List.pairwise_append.1 h.inc).2.2 e he (v, b, r) (by simp)
  have htk : ∀ k, k ≤ b → (T.take b ++ [l]).take k = T.take k := fun k hk => by
    rw [List.take_append_of_le_length (by rw [List.length_take]; omega), List.take_take, Nat.min_eq_left hk]
  refine ⟨⟨?_, fun e he => ?_⟩, ?_⟩
  · have := List.pairwise_append.1 h.inc
    refine List.pairwise_append.2 ⟨this.1, by simp, fun x hx y hy => ?_⟩
    rw [List.mem_singleton.1 hy]; exact hlt x hx
  · rw [List.length_append, List.length_take]
    rcases List.mem_append.1 he with he | he
    · have h1 := hlt e he
      rw [htk _ (by omega)]
      exact ⟨by simp; omega, (h.each e (List.mem_append_left _ he)).2⟩
    · rw [List.mem_singleton.1 he]
      dsimp only
      rw [htk _ (Nat.le_refl _)]
      exact ⟨by simp; omega, (h.each (v, b, r) (by simp)).2⟩
  · rw [lvls_snoc, if_pos rfl]
    exact lvls_congr fun e he => htk _ (by have := hlt e he; omega)
theorem Stk.init {n : Nat} {F : Fm} {T : List Int} {D E : List De} (h : Stk n F T (D ++ E)) : Stk n F T D := ⟨(List.pairwise_append.1 h.inc).1, fun e he => h.each e (by simp [he])⟩
theorem Stk.push {n : Nat} {F : Fm} {T : List Int} {D : List De} (h : Stk n F T D) {v : Nat} (hv : Least n (asg T) v) (hf : Fix F (asg T)) (l : Int) : Stk n F (T ++ [l]) (D ++ [(v, T.length, false)]) ∧ lvls (T ++ [l]) (D ++ [(v, T.length, false)]) = (v, asg T) :: lvls T D := by
  have hg := h.grow (T' := T ++ [l]) (List.prefix_append _ _)
  have ht : (T ++ [l]).take T.length = T := by rw [List.take_left']; rfl
  refine ⟨⟨?_, fun e he => ?_⟩, ?_⟩
  · refine List.pairwise_append.2 ⟨h.inc, by simp, fun x hx y hy => ?_⟩
    rw [List.mem_singleton.1 hy]; exact (h.each x hx).1
  · rcases List.mem_append.1 he with he | he
    · exact hg.1.each e he
    · rw [List.mem_singleton.1 he]
      dsimp only
      rw [ht]
      exact ⟨by simp, hv, hf⟩
  · rw [lvls_snoc, if_neg (by simp), ht, hg.2]
theorem inc_len : ∀ (D : List De) (k m : Nat), (∀ e ∈ D, k ≤ e.2.1 ∧ e.2.1 < m) → D.Pairwise (fun x y => x.2.1 < y.2.1) → D = [] ∨ D.length + k ≤ m
  | [], _, _, _, _ => .inl rfl
  | e :: D, k, m, h, hp => by
    right
    have h1 := h e (by simp)
    rcases inc_len D (e.2.1 + 1) m (fun x hx => ⟨List.rel_of_pairwise_cons hp hx, (h x (by simp [hx])).2⟩) (List.Pairwise.of_cons hp) with rfl | h2
    · simp; omega
    · rw [List.length_cons]; omega
theorem Stk.len {n : Nat} {F : Fm} {T : List Int} {D : List De} (h : Stk n F T D) : D.length ≤ T.length := by
  rcases inc_len D 0 T.length (fun e he => ⟨Nat.zero_le _, (h.each e he).1⟩) h.inc with rfl | h
  · simp
  · omega
theorem Stk.okS {n : Nat} {F : Fm} {T : List Int} {D : List De} (h : Stk n F T D) : okS n (lvls T D) := by
  intro p hp
  unfold lvls at hp
  obtain ⟨e, he, rfl⟩ := List.mem_map.1 (List.mem_reverse.1 hp)
  have := (h.each e (List.mem_filter.1 he).1).2.1
  exact ⟨this.1, this.2.1⟩
theorem lvls_drop {T : List Int} {D : List De} {j : Nat} (h : ∀ i (hi : i < D.length), j ≤ i → D[i].2.2 = true) : lvls T D = lvls T (D.take j) := by
  conv => lhs; rw [← List.take_append_drop j D]
  unfold lvls
  have e0 : (D.drop j).filter (fun e => !e.2.2) = [] := List.filter_eq_nil_iff.2 fun e he => by
    obtain ⟨i, hi, rfl⟩ := List.getElem_of_mem he
    rw [List.length_drop] at hi
    rw [List.getElem_drop, h (j + i) (by omega) (by omega)]; simp
  rw [List.filter_append, e0, List.append_nil]
theorem dcell {D : List De} {k : Nat} (hk : k < D.length) {j i : Nat} (hj : j < 3) (hi : i = k * 3 + j) : (D.flatMap encD)[i]? = (encD D[k])[j]? := by
  subst hi
  have := (rows_at encD 3 encD_len D k hk).1
  rw [← this, List.getElem?_take, if_pos hj, List.getElem?_drop]
theorem own_at3 {cur xs : List Value} {N i : Nat} {v : Value} (h : cur.take N = xs) (hv : xs[i]? = some v) : cur[i]? = some v := by
  rw [← h, List.getElem?_take] at hv
  split at hv
  · exact hv
  · cases hv
theorem dec_set {D : List De} {cur : List Value} {N k i : Nat} {v b : Nat} {r : Bool} (h : cur.take N = D.flatMap encD) (hk : k < D.length) (he : D[k] = (v, b, r)) (hi : i = k * 3 + 2) : (cur.set i (.bool true)).take ((k + 1) * 3) = (D.take k ++ [(v, b, true)]).flatMap encD := by
  subst hi
  have hl := rows_len encD 3 encD_len D
  have hNl := congrArg List.length h
  rw [List.length_take, hl] at hNl
  have hle : (k + 1) * 3 ≤ D.length * 3 := Nat.mul_le_mul_right 3 hk
  have e1 : cur.take ((k + 1) * 3) = (D.take (k + 1)).flatMap encD := by
    rw [← rows_take encD 3 encD_len D (k + 1) hk, ← h, List.take_take, Nat.min_eq_left (by omega)]
  rw [List.take_set, e1, List.take_add_one, List.getElem?_eq_getElem hk, Option.toList_some, List.flatMap_append, List.flatMap_append, he]
  have hl2 := rows_len encD 3 encD_len (D.take k)
  rw [List.length_take, Nat.min_eq_left (Nat.le_of_lt hk)] at hl2
  rw [List.set_append_right _ _ (by omega), hl2, show k * 3 + 2 - k * 3 = 2 by omega]
  rfl

theorem trues_sat (F : Fm) (V : As) : (trues F V).count 0 = 0 ↔ satF F V := by
  unfold trues satF
  rw [List.count_eq_zero, List.mem_map]
  constructor
  · intro h c hc
    have h1 : c.countP (fun l => decide (lv V l = some true)) ≠ 0 := fun e => h ⟨c, hc, e⟩
    obtain ⟨l, h2, h3⟩ := List.countP_pos_iff.1 (Nat.pos_of_ne_zero h1)
    exact ⟨l, h2, by simpa using h3⟩
  · rintro h ⟨c, hc, e⟩
    obtain ⟨l, h1, h2⟩ := h c hc
    have := List.countP_pos_iff (p := fun l => decide (lv V l = some true)).2 ⟨l, h1, by simpa using h2⟩
    omega
theorem lv_none {a : As} {l : Int} : lv a l = none ↔ a l.natAbs = none := by
  rw [lv_abs]
  split
  · exact Iff.rfl
  · cases a l.natAbs <;> simp
theorem Fix.open {n : Nat} {F : Fm} {V : As} (hF : okF n F) (h : Fix F V) (hs : ¬ satF F V) : ∃ v, 1 ≤ v ∧ v ≤ n ∧ V v = none := by
  by_cases hx : ∃ v, 1 ≤ v ∧ v ≤ n ∧ V v = none
  · exact hx
  · exfalso
    apply hs
    intro c hc
    rcases h c hc with h1 | ⟨l, h1, _, _, _, h2, _⟩
    · exact h1
    · have := hF c hc l h1
      exact absurd ⟨l.natAbs, by have := this.1; omega, by have := this.2; omega, lv_none.1 h2⟩ hx
theorem Fix.pend {n : Nat} {F : Fm} (hF : okF n F) {V : As} (h : Fix F V) {T : List Int} {l : Int} (hl : l ≠ 0) (hn : lv V l = none) : ∀ c ∈ F, Pend (put V l) (T ++ [l]) T.length c := fun c hc =>
  Pend.mono (.inl (h c hc)) (fun m hm => (hF c hc m hm).1) hl hn (Nat.le_refl _)

/-- results -/
def ocode : Out → Int
  | .unk => 0
  | .sat _ => 1
  | .uns => 2
def ocells (n : Nat) : Out → List Value
  | .sat b => mcells n b
  | _ => []
end Go.Z.Sat
