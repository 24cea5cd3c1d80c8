/- Chapter 40, plain: widening. No program in sight. Conditions: none. -/
import Derived.Test.YtlcipnligbjclabF0
namespace Go.Z.Val
set_option linter.unusedVariables false
set_option linter.unusedSimpArgs false
set_option linter.unusedSectionVars false
open Go Go.Z
def boundsL : List Int := [-32768, -16384, -8192, -4096, -2048, -1024, -512, -256, -128, -64, -32, -16, -8, -4, -2, -1, 0, 1, 2, 4, 8, 16, 32, 64, 128, 256, 512, 1024, 2048, 4096, 8192, 16384, 32767]
/-- the greatest bound at most v, or v -/
def loS (v : Int) : Int := boundsL.foldl (fun r x => if x ≤ v then x else r) v
/-- the least bound at least v, or v -/
def hiS (v : Int) : Int := boundsL.reverse.foldl (fun r x => if v ≤ x then x else r) v
def widenS (a b : Sp) : Sp := if emptyS a then ofS b.1 b.2 else if emptyS b then a else (if b.1 < a.1 then loS b.1 else a.1, if a.2 < b.2 then hiS b.2 else a.2)
theorem pick_le (v : Int) : ∀ (l : List Int) (r : Int), r ≤ v → l.foldl (fun r x => if x ≤ v then x else r) r ≤ v
  | [], r, h => h
  | x :: l, r, h => by
    rw [List.foldl_cons]
    refine pick_le v l _ ?_
    split <;> assumption
theorem pick_ge (v : Int) : ∀ (l : List Int) (r : Int), v ≤ r → v ≤ l.foldl (fun r x => if v ≤ x then x else r) r
  | [], r, h => h
  | x :: l, r, h => by
    rw [List.foldl_cons]
    refine pick_ge v l _ ?_
    split <;> assumption
theorem loS_le (v : Int) : loS v ≤ v := pick_le v _ v (Int.le_refl _)
theorem hiS_ge (v : Int) : v ≤ hiS v := pick_ge v _ v (Int.le_refl _)
theorem pick_mem {p : Int → Prop} [DecidablePred p] : ∀ (l : List Int) (r : Int), (∃ x ∈ l, p x) → l.foldl (fun r x => if p x then x else r) r ∈ l
  | [], r, h => by obtain ⟨x, hx, _⟩ := h; cases hx
  | x :: l, r, h => by
    rw [List.foldl_cons]
    by_cases h2 : ∃ y ∈ l, p y
    · exact List.mem_cons_of_mem _ (pick_mem l _ h2)
    · have hx : p x := by
        obtain ⟨y, hy, hp⟩ := h
        rcases List.mem_cons.1 hy with rfl | hy
        · exact hp
        · exact absurd ⟨y, hy, hp⟩ h2
      rw [if_pos hx]
      have : ∀ (l : List Int) (r : Int), (¬ ∃ y ∈ l, p y) → l.foldl (fun r x => if p x then x else r) r = r := by
        intro l
        induction l with
        | nil => intro r _; rfl
        | cons z l ih =>
          intro r hn
          rw [List.foldl_cons, if_neg (fun hz => hn ⟨z, by simp, hz⟩)]
          exact ih r fun ⟨y, hy, hp⟩ => hn ⟨y, by simp [hy], hp⟩
      rw [this l x h2]; simp
theorem loS_mem {v : Int} (h : -32768 ≤ v) : loS v ∈ boundsL := pick_mem (p := fun x => x ≤ v) boundsL v ⟨-32768, by decide, h⟩
theorem hiS_mem {v : Int} (h : v ≤ 32767) : hiS v ∈ boundsL := by
  have := pick_mem (p := fun x => v ≤ x) boundsL.reverse v ⟨32767, by decide, h⟩
  exact List.mem_reverse.1 this
theorem within_widen (a b : Sp) : withinS a (widenS a b) = true ∧ withinS b (widenS a b) = true := by
  have h1 := loS_le b.1
  have h2 := hiS_ge b.2
  unfold withinS widenS emptyS
  by_cases ha : a.2 < a.1
  · rw [decide_eq_true ha]
    refine ⟨rfl, ?_⟩
    by_cases hb : b.2 < b.1
    · rw [decide_eq_true hb]; rfl
    · rw [decide_eq_false hb, if_pos rfl, ofS_of (by omega), Bool.false_or, Bool.and_eq_true, hasS_iff, hasS_iff]; omega
  · rw [decide_eq_false ha]
    by_cases hb : b.2 < b.1
    · rw [decide_eq_true hb, Bool.false_or, Bool.and_eq_true, hasS_iff, hasS_iff]
      simp; omega
    · rw [decide_eq_false hb, Bool.false_or, Bool.false_or, Bool.and_eq_true, Bool.and_eq_true, hasS_iff, hasS_iff, hasS_iff, hasS_iff, if_neg (by simp), if_neg (by simp)]
      dsimp only
      split <;> split <;> omega

/-! ### how often widening changes -/
theorem count_lt {l : List Int} {x y : Int} (hx : x ∈ l) (h : x < y) : l.countP (fun z => decide (z < x)) < l.countP (fun z => decide (z < y)) := by
  induction l with
  | nil => cases hx
  | cons z l ih =>
    have mono : l.countP (fun z => decide (z < x)) ≤ l.countP (fun z => decide (z < y)) := List.countP_mono_left fun z _ hz => decide_eq_true (by have := of_decide_eq_true hz; omega)
    rw [List.countP_cons, List.countP_cons]
    rcases List.mem_cons.1 hx with rfl | hx
    · rw [decide_eq_false (by omega), decide_eq_true h]; simp; omega
    · have := ih hx
      by_cases h1 : z < x
      · rw [decide_eq_true h1, decide_eq_true (by omega : z < y)]; simpa using this
      · rw [decide_eq_false h1]; simp; omega
theorem count_gt {l : List Int} {x y : Int} (hx : x ∈ l) (h : y < x) : l.countP (fun z => decide (x < z)) < l.countP (fun z => decide (y < z)) := by
  induction l with
  | nil => cases hx
  | cons z l ih =>
    have mono : l.countP (fun z => decide (x < z)) ≤ l.countP (fun z => decide (y < z)) := List.countP_mono_left fun z _ hz => decide_eq_true (by have := of_decide_eq_true hz; omega)
    rw [List.countP_cons, List.countP_cons]
    rcases List.mem_cons.1 hx with rfl | hx
    · rw [decide_eq_false (by omega), decide_eq_true h]; simp; omega
    · have := ih hx
      by_cases h1 : x < z
      · rw [decide_eq_true h1, decide_eq_true (by omega : y < z)]; simpa using this
      · rw [decide_eq_false h1]; simp; omega
theorem count_mono_lt {x y : Int} (h : x ≤ y) (l : List Int) : l.countP (fun z => decide (z < x)) ≤ l.countP (fun z => decide (z < y)) := List.countP_mono_left fun z _ hz => decide_eq_true (by have := of_decide_eq_true hz; omega)
theorem count_mono_gt {x y : Int} (h : y ≤ x) (l : List Int) : l.countP (fun z => decide (x < z)) ≤ l.countP (fun z => decide (y < z)) := List.countP_mono_left fun z _ hz => decide_eq_true (by have := of_decide_eq_true hz; omega)
theorem count_two {x y : Int} (h : x ≤ y) (l : List Int) : l.countP (fun z => decide (z < x)) + l.countP (fun z => decide (y < z)) ≤ l.length := by
  induction l with
  | nil => simp
  | cons z l ih =>
    rw [List.countP_cons, List.countP_cons, List.length_cons]
    by_cases h1 : z < x
    · rw [decide_eq_true h1, decide_eq_false (by omega : ¬ y < z)]; simp; omega
    · rw [decide_eq_false h1]
      by_cases h2 : y < z
      · rw [decide_eq_true h2]; simp; omega
      · rw [decide_eq_false h2]; simp; omega
/-- how often an interval can still change -/
def left (a : Sp) : Nat := if a.2 < a.1 then 34 else boundsL.countP (fun z => decide (z < a.1)) + boundsL.countP (fun z => decide (a.2 < z))
theorem left_le (a : Sp) : left a ≤ 34 := by
  unfold left
  split
  · exact Nat.le_refl _
  · have := count_two (x := a.1) (y := a.2) (by omega) boundsL
    have e : boundsL.length = 33 := rfl
    omega
theorem left_step {a b : Sp} (hb : ¬ b.2 < b.1 → -32768 ≤ b.1 ∧ b.2 ≤ 32767) : left (widenS a b) ≤ left a ∧ (widenS a b ≠ a → ¬ (emptyS a = true ∧ emptyS (widenS a b) = true) → left (widenS a b) < left a) := by
  unfold widenS emptyS
  by_cases ha : a.2 < a.1
  · rw [decide_eq_true ha, if_pos rfl]
    have hla : left a = 34 := by unfold left; rw [if_pos ha]
    refine ⟨by rw [hla]; exact left_le _, fun _ h => ?_⟩
    by_cases hb2 : b.2 < b.1
    · exact absurd ⟨rfl, by unfold ofS; rw [if_pos hb2]; rfl⟩ h
    · rw [ofS_of (by omega), hla]
      unfold left
      rw [if_neg hb2]
      show boundsL.countP (fun z => decide (z < b.1)) + boundsL.countP (fun z => decide (b.2 < z)) < 34
      have := count_two (x := b.1) (y := b.2) (by omega) boundsL
      have e : boundsL.length = 33 := rfl
      omega
  · rw [decide_eq_false ha, if_neg (by simp)]
    by_cases hb2 : b.2 < b.1
    · rw [decide_eq_true hb2, if_pos rfl]
      exact ⟨Nat.le_refl _, fun h => absurd rfl h⟩
    · rw [decide_eq_false hb2, if_neg (by simp)]
      obtain ⟨hb3, hb4⟩ := hb hb2
      have h1 := loS_le b.1
      have h2 := hiS_ge b.2
      have m1 := loS_mem hb3
      have m2 := hiS_mem hb4
      unfold left
      rw [if_neg ha]
      by_cases c1 : b.1 < a.1
      · have d1 := count_lt m1 (show loS b.1 < a.1 by omega)
        by_cases c2 : a.2 < b.2
        · have d2 := count_gt m2 (show a.2 < hiS b.2 by omega)
          rw [if_pos c1, if_pos c2, if_neg (by dsimp only; omega)]
          exact ⟨by dsimp only; omega, fun _ _ => by dsimp only; omega⟩
        · rw [if_pos c1, if_neg c2, if_neg (by dsimp only; omega)]
          exact ⟨by dsimp only; omega, fun _ _ => by dsimp only; omega⟩
      · by_cases c2 : a.2 < b.2
        · have d2 := count_gt m2 (show a.2 < hiS b.2 by omega)
          rw [if_neg c1, if_pos c2, if_neg (by dsimp only; omega)]
          exact ⟨by dsimp only; omega, fun _ _ => by dsimp only; omega⟩
        · rw [if_neg c1, if_neg c2]
          refine ⟨by dsimp only; rw [if_neg ha]; exact Nat.le_refl _, fun h => absurd rfl h⟩
theorem pick_none {p : Int → Prop} [DecidablePred p] : ∀ (l : List Int) (r : Int), (∀ m ∈ l, ¬ p m) → l.foldl (fun r x => if p x then x else r) r = r
  | [], r, _ => rfl
  | x :: l, r, h => by
    rw [List.foldl_cons, if_neg (h x (by simp))]
    exact pick_none l r fun m hm => h m (by simp [hm])
theorem loS_at {v n : Int} (hn : n ∈ boundsL) (h1 : n ≤ v) (h2 : ∀ m ∈ boundsL, n < m → v < m) : loS v = n := by
  have hp : boundsL.Pairwise (· < ·) := by decide
  unfold loS
  obtain ⟨l1, l2, e⟩ := List.append_of_mem hn
  rw [e] at hp h2 ⊢
  rw [List.foldl_append, List.foldl_cons, if_pos h1]
  have h3 := (List.pairwise_cons.1 (List.pairwise_append.1 hp).2.1).1
  exact pick_none (p := fun x => x ≤ v) l2 n fun m hm => by have := h2 m (by simp [hm]) (h3 m hm); omega
theorem hiS_at {v n : Int} (hn : n ∈ boundsL) (h1 : v ≤ n) (h2 : ∀ m ∈ boundsL, m < n → m < v) : hiS v = n := by
  have hp : boundsL.reverse.Pairwise (fun x y => y < x) := by decide
  have hn' : n ∈ boundsL.reverse := List.mem_reverse.2 hn
  have h2' : ∀ m ∈ boundsL.reverse, m < n → m < v := fun m hm => h2 m (List.mem_reverse.1 hm)
  unfold hiS
  obtain ⟨l1, l2, e⟩ := List.append_of_mem hn'
  rw [e] at hp h2' ⊢
  rw [List.foldl_append, List.foldl_cons, if_pos h1]
  have h3 := (List.pairwise_cons.1 (List.pairwise_append.1 hp).2.1).1
  exact pick_none (p := fun x => v ≤ x) l2 n fun m hm => by have := h2' m (by simp [hm]) (h3 m hm); omega
theorem loS_out {v : Int} (h : v < -32768) : loS v = v := pick_none (p := fun x => x ≤ v) boundsL v fun m hm => by
  have : ∀ m ∈ boundsL, -32768 ≤ m := by decide
  have := this m hm; omega
theorem hiS_out {v : Int} (h : 32767 < v) : hiS v = v := pick_none (p := fun x => v ≤ x) boundsL.reverse v fun m hm => by
  have : ∀ m ∈ boundsL.reverse, m ≤ 32767 := by decide
  have := this m hm; omega
/-- powers of two and the bounds between them -/
theorem pow_mem (k : Nat) (h : k ≤ 14) : (2 : Int) ^ k ∈ boundsL ∧ -(2 : Int) ^ k ∈ boundsL ∧ (∀ m ∈ boundsL, (2 : Int) ^ k < m → 2 * (2 : Int) ^ k ≤ m ∨ m = 32767) ∧ (∀ m ∈ boundsL, m < (2 : Int) ^ k → 2 * m ≤ (2 : Int) ^ k) ∧ (∀ m ∈ boundsL, -(2 : Int) ^ k < m → -(2 : Int) ^ k ≤ 2 * m) ∧ (∀ m ∈ boundsL, m < -(2 : Int) ^ k → m ≤ -(2 * (2 : Int) ^ k)) := by
  have key : ∀ k : Fin 15, (2 : Int) ^ k.val ∈ boundsL ∧ -(2 : Int) ^ k.val ∈ boundsL ∧ (∀ m ∈ boundsL, (2 : Int) ^ k.val < m → 2 * (2 : Int) ^ k.val ≤ m ∨ m = 32767) ∧ (∀ m ∈ boundsL, m < (2 : Int) ^ k.val → 2 * m ≤ (2 : Int) ^ k.val) ∧ (∀ m ∈ boundsL, -(2 : Int) ^ k.val < m → -(2 : Int) ^ k.val ≤ 2 * m) ∧ (∀ m ∈ boundsL, m < -(2 : Int) ^ k.val → m ≤ -(2 * (2 : Int) ^ k.val)) := by decide
  exact key ⟨k, by omega⟩
end Go.Z.Val
