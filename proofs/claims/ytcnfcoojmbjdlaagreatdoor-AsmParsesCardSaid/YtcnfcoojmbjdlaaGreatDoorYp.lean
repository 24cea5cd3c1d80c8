/- Cutting and splitting bytes at one byte, plain: the library's functions say the same. No program in sight. Conditions: none. -/
import Derived.Lib.Split
import Derived.Lib.CutLaws
namespace Go.Z.Txt
set_option maxRecDepth 8000
set_option linter.unusedVariables false
set_option linter.unusedSimpArgs false
set_option linter.unusedSectionVars false
open Go Go.Lib

/-- the pieces of l between the instances of c -/
def pieces (c : UInt8) : List UInt8 → List (List UInt8)
  | [] => [[]]
  | b :: l => if b = c then [] :: pieces c l else
    match pieces c l with
    | [] => [[b]]
    | x :: r => (b :: x) :: r
theorem pieces_ne (c : UInt8) (l : List UInt8) : pieces c l ≠ [] := by
  cases l with
  | nil => simp [pieces]
  | cons b l =>
    unfold pieces
    split
    · simp
    · split <;> simp
theorem pieces_free {c : UInt8} : ∀ {l : List UInt8}, c ∉ l → pieces c l = [l]
  | [], _ => rfl
  | b :: l, h => by
    rw [List.mem_cons, not_or] at h
    rw [pieces, if_neg (fun e => h.1 e.symm), pieces_free h.2]
theorem pieces_hit {c : UInt8} : ∀ {x : List UInt8} (r : List UInt8), c ∉ x → pieces c (x ++ c :: r) = x :: pieces c r
  | [], r, _ => by rw [List.nil_append, pieces, if_pos rfl]
  | b :: x, r, h => by
    rw [List.mem_cons, not_or] at h
    rw [List.cons_append, pieces, if_neg (fun e => h.1 e.symm), pieces_hit r h.2]
theorem cut_or (c : UInt8) : ∀ l : List UInt8, c ∉ l ∨ ∃ x r, l = x ++ c :: r ∧ c ∉ x
  | [] => .inl (by simp)
  | b :: l => by
    by_cases hb : b = c
    · exact .inr ⟨[], l, by rw [hb]; rfl, by simp⟩
    · rcases cut_or c l with h | ⟨x, r, rfl, h⟩
      · exact .inl (by simp [h, Ne.symm hb])
      · exact .inr ⟨b :: x, r, rfl, by simp [h, Ne.symm hb]⟩
theorem index_free {c : UInt8} : ∀ {l : List UInt8}, c ∉ l → index l [c] = -1
  | [], _ => rfl
  | b :: l, h => by
    rw [List.mem_cons, not_or] at h
    have h1 : [c].isPrefixOf (b :: l) = false := by simp [List.isPrefixOf, h.1]
    rw [index, h1, index_free h.2]; rfl
theorem index_hit {c : UInt8} : ∀ {x : List UInt8} (r : List UInt8), c ∉ x → index (x ++ c :: r) [c] = x.length
  | [], r, _ => by rw [List.nil_append, index]; simp [List.isPrefixOf]
  | b :: x, r, h => by
    rw [List.mem_cons, not_or] at h
    have h1 : [c].isPrefixOf (b :: (x ++ c :: r)) = false := by simp [List.isPrefixOf, h.1]
    rw [List.cons_append, index, h1, index_hit r h.2]
    have : ((x.length : Int) == -1) = false := by rw [beq_eq_false_iff_ne]; omega
    simp only [Bool.false_eq_true, if_false, this, List.length_cons]
    omega
theorem count_pos {c : UInt8} (x r : List UInt8) (h : c ∉ x) : count (x ++ c :: r) [c] = 1 + count r [c] := by
  rw [count_hit (by simp) (index_hit r h)]
  congr 2
  rw [show x.length + [c].length = x.length + 1 from rfl, List.drop_append, List.drop_of_length_le (by omega), show x.length + 1 - x.length = 1 by omega]; rfl
theorem split_pieces (c : UInt8) : ∀ (n : Nat) (l : List UInt8), l.length ≤ n → splitK [c] 0 (count l [c]) l = pieces c l := by
  intro n
  induction n with
  | zero =>
    intro l h
    have : l = [] := List.eq_nil_of_length_eq_zero (by omega)
    subst this
    rw [count_miss (index_free (by simp))]; rfl
  | succ n ih =>
    intro l h
    rcases cut_or c l with hf | ⟨x, r, rfl, hx⟩
    · rw [count_miss (index_free hf), pieces_free hf]; rfl
    · rw [count_pos x r hx, Nat.add_comm, splitK, index_hit r hx, pieces_hit r hx]
      have hm : ((x.length : Int) == -1) = false := by rw [beq_eq_false_iff_ne]; omega
      rw [if_neg (by rw [hm]; decide), Int.toNat_natCast, Nat.add_zero]
      have h1 : (x ++ c :: r).drop (x.length + [c].length) = r := by
        rw [show x.length + [c].length = x.length + 1 from rfl, List.drop_append, List.drop_of_length_le (by omega), show x.length + 1 - x.length = 1 by omega]; rfl
      rw [h1, List.take_left, ih r (by simp at h; omega)]
theorem splitB_pieces (s : ByteArray) (c : UInt8) : (splitB ⟨#[c]⟩ 0 (countB s ⟨#[c]⟩) s).map (·.data.toList) = pieces c s.data.toList := by
  rw [splitB_data]
  exact split_pieces c _ _ (Nat.le_refl _)
theorem cut_free {c : UInt8} {l : List UInt8} (h : c ∉ l) : cut l [c] = (l, [], false) := by
  rw [cut, index_free h]; rfl
theorem cut_hit {c : UInt8} {x : List UInt8} (r : List UInt8) (h : c ∉ x) : cut (x ++ c :: r) [c] = (x, r, true) := by
  rw [cut, index_hit r h, if_pos (by omega), Int.toNat_natCast]
  have h1 : (x ++ c :: r).drop (x.length + [c].length) = r := by
    rw [show x.length + [c].length = x.length + 1 from rfl, List.drop_append, List.drop_of_length_le (by omega), show x.length + 1 - x.length = 1 by omega]; rfl
  rw [h1, List.take_left]
/-- the pieces joined again -/
def glue (c : UInt8) : List (List UInt8) → List UInt8
  | [] => []
  | [x] => x
  | x :: r => x ++ c :: glue c r
theorem glue_cons {c : UInt8} {x y : List UInt8} {r : List (List UInt8)} : glue c (x :: y :: r) = x ++ c :: glue c (y :: r) := rfl
theorem pieces_glue {c : UInt8} : ∀ {l : List (List UInt8)}, l ≠ [] → (∀ x ∈ l, c ∉ x) → pieces c (glue c l) = l
  | [], h, _ => absurd rfl h
  | [x], _, h => pieces_free (h x (by simp))
  | x :: y :: r, _, h => by
    rw [glue_cons, pieces_hit _ (h x (by simp)), pieces_glue (by simp) (fun z hz => h z (by simp [hz]))]
theorem glue_pieces (c : UInt8) : ∀ l : List UInt8, glue c (pieces c l) = l
  | [] => rfl
  | b :: l => by
    have ih := glue_pieces c l
    rw [pieces]
    split
    · rename_i h; subst h
      cases hp : pieces b l with
      | nil => exact absurd hp (pieces_ne _ _)
      | cons x r => rw [hp] at ih; rw [glue_cons, ih]; rfl
    · cases hp : pieces c l with
      | nil => exact absurd hp (pieces_ne _ _)
      | cons x r =>
        rw [hp] at ih
        cases r with
        | nil => simp only [glue] at ih ⊢; rw [ih]
        | cons y r => simp only [glue] at ih ⊢; rw [List.cons_append, ih]
theorem pieces_mem {c : UInt8} : ∀ {l : List UInt8} {x : List UInt8}, x ∈ pieces c l → c ∉ x ∧ x.length ≤ l.length
  | [], x, h => by
    simp [pieces] at h; subst h; simp
  | b :: l, x, h => by
    rw [pieces] at h
    split at h
    · rcases List.mem_cons.1 h with rfl | h
      · simp
      · have := pieces_mem h; exact ⟨this.1, by simp; omega⟩
    · rename_i hb
      cases hp : pieces c l with
      | nil => exact absurd hp (pieces_ne _ _)
      | cons y r =>
        rw [hp] at h
        rcases List.mem_cons.1 h with rfl | h
        · have := pieces_mem (l := l) (x := y) (by rw [hp]; simp)
          exact ⟨by simp [this.1, Ne.symm hb], by simp; omega⟩
        · have := pieces_mem (l := l) (x := x) (by rw [hp]; simp [h])
          exact ⟨this.1, by simp; omega⟩
end Go.Z.Txt
