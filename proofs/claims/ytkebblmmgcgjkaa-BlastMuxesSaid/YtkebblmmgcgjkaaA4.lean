/- Chapter 35: the values of variables, plain. Conditions: none. -/
import Derived.Test.YtkebblmmgcgjkaaA0
namespace Go.Z.Aig
set_option maxRecDepth 8000
set_option linter.unusedVariables false
set_option linter.unusedSimpArgs false
set_option linter.unusedSectionVars false
open Go Go.Z

def litv (acc : List Bool) (a : Int) : Bool := acc.getD (a / 2).toNat false != decide (a % 2 = 1)
def stepV (st : List Bool × List Bool) (g : Gt) : List Bool × List Bool :=
  if g.2.2 then (st.1 ++ [st.2.headD false], st.2.tail) else (st.1 ++ [litv st.1 g.1 && litv st.1 g.2.1], st.2)
def valsF (l : List Gt) (inp : List Bool) : List Bool × List Bool := l.foldl stepV ([false], inp)
def vals (S : St) (inp : List Bool) : List Bool := (valsF (S.drop 1) inp).1
def eval1 (S : St) (inp : List Bool) (ls : List Int) : List Bool × Int :=
  if inp.length ≠ (ins 0 S).length then ([], 9) else if ls.all (hasB S) then (ls.map (litv (vals S inp)), 0) else ([], 14)

theorem valsF_snoc (l : List Gt) (g : Gt) (inp : List Bool) : valsF (l ++ [g]) inp = stepV (valsF l inp) g := by simp [valsF]
theorem stepV_pre (st : List Bool × List Bool) (g : Gt) : ∃ b, (stepV st g).1 = st.1 ++ [b] := by unfold stepV; split <;> exact ⟨_, rfl⟩
theorem foldV_pre : ∀ (l : List Gt) (st : List Bool × List Bool), ∃ t, (l.foldl stepV st).1 = st.1 ++ t ∧ t.length = l.length
  | [], st => ⟨[], by simp⟩
  | g :: l, st => by
    obtain ⟨b, hb⟩ := stepV_pre st g
    obtain ⟨t, ht, hl⟩ := foldV_pre l (stepV st g)
    exact ⟨b :: t, by simp [ht, hb], by simp [hl]⟩
theorem valsF_len (l : List Gt) (inp : List Bool) : (valsF l inp).1.length = l.length + 1 := by
  obtain ⟨t, ht, hl⟩ := foldV_pre l ([false], inp)
  unfold valsF
  rw [ht, List.length_append, hl]; simp; omega
theorem valsF_rest (i : Nat) : ∀ (l : List Gt) (inp : List Bool) (acc : List Bool), (l.foldl stepV (acc, inp)).2 = inp.drop (ins i l).length
  | [], inp, acc => by simp [ins]
  | g :: l, inp, acc => by
    simp only [List.foldl_cons, ins]
    have hi : ∀ j, (ins j l).length = (ins i l).length := by
      have : ∀ (l : List Gt) (i j : Nat), (ins i l).length = (ins j l).length := by
        intro l
        induction l with
        | nil => intro i j; rfl
        | cons g l ih => intro i j; simp only [ins]; split <;> simp [ih (i + 1) (j + 1)]
      exact fun j => this l j i
    split
    · rename_i hg
      have e : stepV (acc, inp) g = (acc ++ [inp.headD false], inp.tail) := by simp [stepV, hg]
      rw [e, valsF_rest i l inp.tail _, List.length_cons, hi (i + 1)]
      cases inp <;> simp
    · rename_i hg
      have e : stepV (acc, inp) g = (acc ++ [litv acc g.1 && litv acc g.2.1], inp) := by simp [stepV, hg]
      rw [e, valsF_rest i l inp _, hi (i + 1)]

theorem vals_len {S : St} (h : WF S) (inp : List Bool) : (vals S inp).length = S.length := by
  unfold vals; rw [valsF_len, List.length_drop]; have := h.pos; omega

theorem vals_split {S : St} {v : Nat} {g : Gt} (hv : 0 < v) (hg : S[v]? = some g) (inp : List Bool) :
    ∃ t, vals S inp = (stepV (valsF ((S.drop 1).take (v - 1)) inp) g).1 ++ t ∧ (valsF ((S.drop 1).take (v - 1)) inp).1.length = v := by
  have hlt := (List.getElem?_eq_some_iff.1 hg).1
  have h1 : S.drop 1 = (S.drop 1).take (v - 1) ++ g :: (S.drop 1).drop v := by
    have h2 : (S.drop 1)[v - 1]? = some g := by rw [List.getElem?_drop, show 1 + (v - 1) = v from by omega]; exact hg
    have h3 := (List.getElem?_eq_some_iff.1 h2)
    obtain ⟨h4, h5⟩ := h3
    rw [← h5]
    have := List.take_append_drop (v - 1) (S.drop 1)
    rw [List.drop_eq_getElem_cons h4, show v - 1 + 1 = v from by omega] at this
    exact this.symm
  unfold vals
  have hlen : (valsF ((S.drop 1).take (v - 1)) inp).1.length = v := by
    rw [valsF_len, List.length_take, List.length_drop]; omega
  obtain ⟨t, ht, _⟩ := foldV_pre ((S.drop 1).drop v) (stepV (valsF ((S.drop 1).take (v - 1)) inp) g)
  refine ⟨t, ?_, hlen⟩
  rw [← ht]
  conv => lhs; rw [h1]
  simp [valsF]

theorem litv_pre {acc t : List Bool} {a : Int} (h : (a / 2).toNat < acc.length) : litv (acc ++ t) a = litv acc a := by
  unfold litv
  rw [List.getD_eq_getElem?_getD, List.getElem?_append_left h, ← List.getD_eq_getElem?_getD]

theorem vals_gate {S : St} (h : WF S) {v : Nat} {a b : Int} (hv : 0 < v) (hg : S[v]? = some (a, b, false)) (inp : List Bool) :
    (vals S inp)[v]? = some (litv (vals S inp) a && litv (vals S inp) b) := by
  obtain ⟨t, ht, hl⟩ := vals_split hv hg inp
  obtain ⟨h1, h2, h3⟩ := h.gate v a b hv hg
  have e : (stepV (valsF ((S.drop 1).take (v - 1)) inp) (a, b, false)).1 = (valsF ((S.drop 1).take (v - 1)) inp).1 ++ [litv (valsF ((S.drop 1).take (v - 1)) inp).1 a && litv (valsF ((S.drop 1).take (v - 1)) inp).1 b] := by simp [stepV]
  rw [e] at ht
  rw [ht, List.append_assoc, litv_pre (by rw [hl]; omega), litv_pre (by rw [hl]; omega), List.getElem?_append_right (by omega), hl]
  simp

theorem vals_zero {S : St} (h : WF S) (inp : List Bool) : (vals S inp)[0]? = some false := by
  obtain ⟨t, ht, _⟩ := foldV_pre (S.drop 1) ([false], inp)
  unfold vals valsF
  rw [ht]; rfl

/-- how many inputs stand before variable v -/
def rank (S : St) (v : Nat) : Nat := (ins 0 (S.take v)).length

theorem ins_at : ∀ (l : List Gt) (i j : Nat) (a b : Int), l[j]? = some (a, b, true) → (ins i l)[(ins i (l.take j)).length]? = some (2 * ((i + j : Nat) : Int))
  | [], i, j, a, b, h => by simp at h
  | g :: l, i, 0, a, b, h => by
    simp at h; subst h; simp [ins]
  | g :: l, i, j + 1, a, b, h => by
    have ih := ins_at l (i + 1) j a b (by simpa using h)
    rw [List.take_succ_cons]
    simp only [ins]
    split
    · rw [List.length_cons, List.getElem?_cons_succ, ih]; congr 2; omega
    · rw [ih]; congr 2; omega

theorem ins_of : ∀ (l : List Gt) (i k : Nat) (x : Int), (ins i l)[k]? = some x → ∃ j a b, l[j]? = some (a, b, true) ∧ x = 2 * ((i + j : Nat) : Int) ∧ (ins i (l.take j)).length = k
  | [], i, k, x, h => by simp [ins] at h
  | (a, b, true) :: l, i, 0, x, h => by
    simp [ins] at h
    exact ⟨0, a, b, by simp, by rw [← h]; rfl, by simp [ins]⟩
  | (a, b, true) :: l, i, k + 1, x, h => by
    simp [ins] at h
    obtain ⟨j, a', b', h1, h2, h3⟩ := ins_of l (i + 1) k x h
    exact ⟨j + 1, a', b', by simpa using h1, by rw [h2]; congr 2; omega, by simp [ins, h3]⟩
  | (a, b, false) :: l, i, k, x, h => by
    simp [ins] at h
    obtain ⟨j, a', b', h1, h2, h3⟩ := ins_of l (i + 1) k x h
    exact ⟨j + 1, a', b', by simpa using h1, by rw [h2]; congr 2; omega, by simp [ins, h3]⟩

theorem vals_inp {S : St} (h : WF S) {v : Nat} {a b : Int} (hv : 0 < v) (hg : S[v]? = some (a, b, true)) (inp : List Bool) :
    (vals S inp)[v]? = some (inp.getD (rank S v) false) := by
  obtain ⟨t, ht, hl⟩ := vals_split hv hg inp
  have e0 : (valsF ((S.drop 1).take (v - 1)) inp).2 = inp.drop (rank S v) := by
    unfold valsF
    rw [valsF_rest 1]
    unfold rank
    have : S.take v = (S.take 1) ++ (S.drop 1).take (v - 1) := by
      rw [← List.take_add, show 1 + (v - 1) = v from by omega]
    rw [this, ins_append]
    have hd := h.hd
    cases S with
    | nil => simp at hd
    | cons g S => simp at hd; subst hd; simp [ins]
  have e : (stepV (valsF ((S.drop 1).take (v - 1)) inp) (a, b, true)).1 = (valsF ((S.drop 1).take (v - 1)) inp).1 ++ [(inp.drop (rank S v)).headD false] := by rw [← e0]; rfl
  rw [e] at ht
  rw [ht, List.append_assoc, List.getElem?_append_right (by omega), hl]
  simp [List.headD_eq_head?_getD, List.head?_drop, List.getD_eq_getElem?_getD]
end Go.Z.Aig
