/- Chapter 38, plain: the operators on bits yield the operators on values. No program in sight. Conditions: none. -/
import Derived.Test.YtkebblmmgcgjkaaJ0
namespace Go.Z.Bit
set_option maxRecDepth 8000
set_option linter.unusedVariables false
set_option linter.unusedSimpArgs false
set_option linter.unusedSectionVars false
open Go Go.Z Go.Z.Val

/-- the number of bits: a signed one for 16 bits -/
def sg (l : List Bool) : Int := if l.length = 16 ∧ 32768 ≤ num l then (num l : Int) - 65536 else num l
def belowF (a b : List Bool) : Bool := !(addF a (b.map (!·)) true).2
def flipF (l : List Bool) (n : Nat) : List Bool := l.set n (!(l.getD n false))
def lessF (a b : List Bool) : Bool := belowF (flipF a (a.length - 1)) (flipF b (a.length - 1))
def allF (l : List Bool) : Bool := l.foldl (fun x y => x && y) true
def zeroF (a : List Bool) : Bool := allF (a.map (!·))
def equalF (a b : List Bool) : Bool := allF (List.zipWith (fun x y => !(x != y)) a b)
def muxF (c : Bool) (a b : List Bool) : List Bool := List.zipWith (fun x y => if c then x else y) a b
def divisionF (a b : List Bool) : List Bool × List Bool :=
  let n := a.length - 1
  let d := divF (negF (b.getD n false) b) (negF (a.getD n false) a)
  (muxF (zeroF b) (List.replicate (n + 1) false) (negF (a.getD n false != b.getD n false) d.1), muxF (zeroF b) a (negF (a.getD n false) (d.2.take a.length)))
def compareF (op : Int) (a b : List Bool) : Bool :=
  if op = 11 then equalF a b else if op = 12 then !equalF a b else if op = 13 then lessF a b else if op = 14 then !lessF b a else if op = 15 then lessF b a else !lessF a b
def operateF (op : Int) (a b : List Bool) : List Bool :=
  if op = 1 then a.map (!·) else if op = 2 then negF true a else if op = 3 then [a.getD 0 false && b.getD 0 false] else if op = 4 then [a.getD 0 false || b.getD 0 false]
  else if op = 5 then [a.getD 0 false != b.getD 0 false] else if op = 6 then (addF a b false).1 else if op = 7 then (addF a (b.map (!·)) true).1 else if op = 8 then mulF a b a.length a.length
  else if op = 9 then (divisionF a b).1 else if op = 10 then (divisionF a b).2 else [compareF op a b]

theorem belowF_iff {a b : List Bool} (h : a.length = b.length) : belowF a b = decide (num a < num b) := by
  unfold belowF
  rw [addF_carry h, ← decide_not]
  exact decide_eq_decide.2 (by omega)
theorem allF_iff (l : List Bool) : allF l = true ↔ ∀ b ∈ l, b = true := by
  have key : ∀ (l : List Bool) (x : Bool), l.foldl (fun x y => x && y) x = true ↔ x = true ∧ ∀ b ∈ l, b = true := by
    intro l
    induction l with
    | nil => intro x; simp
    | cons b l ih => intro x; rw [List.foldl_cons, ih, Bool.and_eq_true, and_assoc, List.forall_mem_cons]
  unfold allF; rw [key]; simp
theorem allF_snoc (l : List Bool) (x : Bool) : allF (l ++ [x]) = (allF l && x) := by unfold allF; rw [List.foldl_append]; rfl
theorem zeroF_iff (a : List Bool) : zeroF a = decide (num a = 0) := by
  unfold zeroF
  rw [Bool.eq_iff_iff, allF_iff, decide_eq_true_iff, num_zero]
  simp
theorem equalF_iff : ∀ {a b : List Bool}, a.length = b.length → equalF a b = decide (a = b) := by
  intro a b h
  unfold equalF
  rw [Bool.eq_iff_iff, allF_iff, decide_eq_true_iff]
  induction a generalizing b with
  | nil => cases b with
    | nil => simp
    | cons => cases h
  | cons x a ih =>
    cases b with
    | nil => cases h
    | cons y b =>
      rw [List.zipWith_cons_cons, List.forall_mem_cons, ih (Nat.succ.inj h), List.cons.injEq]
      cases x <;> cases y <;> simp
theorem muxF_eq (c : Bool) : ∀ {a b : List Bool}, a.length = b.length → muxF c a b = if c then a else b
  | [], [], _ => by simp [muxF]
  | [], _ :: _, h => by cases h
  | _ :: _, [], h => by cases h
  | x :: a, y :: b, h => by
    have := muxF_eq c (Nat.succ.inj h : a.length = b.length)
    unfold muxF at this ⊢
    rw [List.zipWith_cons_cons, this]
    cases c <;> rfl
theorem top_split {l : List Bool} (h : l.length = 16) : ∃ t x, l = t ++ [x] ∧ t.length = 15 ∧ l.getD 15 false = x ∧ num l = num t + 32768 * x.toNat ∧ num t < 32768 := by
  have hne : l ≠ [] := by intro e; rw [e] at h; cases h
  refine ⟨l.dropLast, l.getLast hne, (List.dropLast_concat_getLast hne).symm, by rw [List.length_dropLast, h], ?_, ?_, ?_⟩
  · rw [List.getD_eq_getElem?_getD, List.getElem?_eq_getElem (by omega), List.getLast_eq_getElem]
    simp [h]
  · conv => lhs; rw [← List.dropLast_concat_getLast hne, num_append, List.length_dropLast, h]
    simp [num]
  · have := num_lt l.dropLast
    rw [List.length_dropLast, h] at this
    exact this
theorem sg16 {l : List Bool} (h : l.length = 16) : sg l = (if l.getD 15 false then (num l : Int) - 65536 else num l) ∧ -32768 ≤ sg l ∧ sg l ≤ 32767 ∧ (num l : Int) = sg l % 65536 ∧ (l.getD 15 false = decide (sg l < 0)) := by
  obtain ⟨t, x, h1, h2, h3, h4, h5⟩ := top_split h
  unfold sg
  rw [h3]
  cases x
  · simp at h4
    rw [if_neg (by omega), if_neg (by simp)]
    refine ⟨rfl, by omega, by omega, by omega, ?_⟩
    symm; rw [decide_eq_false_iff_not]; omega
  · simp at h4
    rw [if_pos (by omega), if_pos rfl]
    refine ⟨rfl, by omega, by omega, by omega, ?_⟩
    symm; rw [decide_eq_true_iff]; omega
theorem flipF_num {l : List Bool} (h : l.length = 16) : (num (flipF l 15) : Int) = sg l + 32768 ∧ (flipF l 15).length = 16 := by
  obtain ⟨t, x, h1, h2, h3, h4, h5⟩ := top_split h
  have hs := (sg16 h).1
  rw [h3] at hs
  have he : flipF l 15 = t ++ [!x] := by
    unfold flipF
    rw [h3, h1, List.set_append_right _ _ (by omega), h2]
    rfl
  rw [he, num_append, h2, hs, h4]
  refine ⟨?_, by simp [h2]⟩
  cases x <;> simp [num] <;> omega
theorem lessF_iff {a b : List Bool} (ha : a.length = 16) (hb : b.length = 16) : lessF a b = decide (sg a < sg b) := by
  obtain ⟨h1, h2⟩ := flipF_num ha
  obtain ⟨h3, h4⟩ := flipF_num hb
  unfold lessF
  rw [ha]
  show belowF (flipF a 15) (flipF b 15) = _
  rw [belowF_iff (by rw [h2, h4])]
  exact decide_eq_decide.2 (by omega)
theorem negF_abs {l : List Bool} (h : l.length = 16) : num (negF (l.getD 15 false) l) = (sg l).natAbs := by
  obtain ⟨h1, h2, h3, h4, h5⟩ := sg16 h
  rw [negF_num, h]
  have := num_lt l
  rw [h] at this
  cases hx : l.getD 15 false with
  | true => rw [hx, if_pos rfl] at h1; rw [if_pos rfl]; omega
  | false => rw [hx, if_neg (by simp)] at h1; rw [if_neg (by simp)]; omega
theorem tdiv_abs (a b : Int) : a.tdiv b = if (decide (a < 0) != decide (b < 0)) then -((a.natAbs / b.natAbs : Nat) : Int) else ((a.natAbs / b.natAbs : Nat) : Int) := by
  rcases Int.natAbs_eq a with ha | ha <;> rcases Int.natAbs_eq b with hb | hb <;> (generalize a.natAbs = x at ha; generalize b.natAbs = y at hb; subst ha; subst hb)
  · rw [← Int.ofNat_tdiv, if_neg (by rw [decide_eq_false (by omega), decide_eq_false (by omega)]; simp)]
  · rw [Int.tdiv_neg, ← Int.ofNat_tdiv]
    by_cases hy : y = 0
    · subst hy; simp
    · rw [if_pos]; rw [decide_eq_false (by omega), decide_eq_true (by omega)]; rfl
  · rw [Int.neg_tdiv, ← Int.ofNat_tdiv]
    by_cases hx : x = 0
    · subst hx; simp
    · rw [if_pos]; rw [decide_eq_true (by omega), decide_eq_false (by omega)]; rfl
  · rw [Int.neg_tdiv, Int.tdiv_neg, Int.neg_neg, ← Int.ofNat_tdiv]
    by_cases hx : x = 0
    · subst hx; simp
    · by_cases hy : y = 0
      · subst hy; simp
      · rw [if_neg]; rw [decide_eq_true (by omega), decide_eq_true (by omega)]; simp
theorem tmod_abs (a b : Int) : a.tmod b = if decide (a < 0) then -((a.natAbs % b.natAbs : Nat) : Int) else ((a.natAbs % b.natAbs : Nat) : Int) := by
  rcases Int.natAbs_eq a with ha | ha <;> rcases Int.natAbs_eq b with hb | hb <;> (generalize a.natAbs = x at ha; generalize b.natAbs = y at hb; subst ha; subst hb)
  · rw [← Int.ofNat_tmod]; rw [if_neg]; simp
  · rw [Int.tmod_neg, ← Int.ofNat_tmod, if_neg]; simp
  · rw [Int.neg_tmod, ← Int.ofNat_tmod]
    by_cases hx : x = 0
    · subst hx; simp
    · rw [if_pos]; simp; omega
  · rw [Int.neg_tmod, Int.tmod_neg, ← Int.ofNat_tmod]
    by_cases hx : x = 0
    · subst hx; simp
    · rw [if_pos]; simp; omega
theorem sg_zero {l : List Bool} : num l = 0 ↔ sg l = 0 := by
  have := num_lt l
  unfold sg
  split
  · rename_i h; rw [h.1] at this; omega
  · omega
theorem division_q {a b : List Bool} (ha : a.length = 16) (hb : b.length = 16) : (divisionF a b).1 = bitsR 16 (if sg b = 0 then 0 else wr ((sg a).tdiv (sg b))) := by
  have hl := divF_len (negF (b.getD 15 false) b) (negF (a.getD 15 false) a)
  rw [negF_len, negF_len, ha, hb] at hl
  unfold divisionF
  simp only [ha]
  rw [muxF_eq _ (by rw [negF_len, hl.1]; simp), zeroF_iff]
  by_cases h0 : num b = 0
  · rw [decide_eq_true h0, if_pos rfl, if_pos (sg_zero.1 h0)]
    rfl
  · have hs : sg b ≠ 0 := fun e => h0 (sg_zero.2 e)
    rw [decide_eq_false h0, if_neg (by simp), if_neg hs]
    have hpos : 0 < num (negF (b.getD 15 false) b) := by rw [negF_abs hb]; omega
    have hq := (divF_qr hpos (negF (a.getD 15 false) a)).1
    rw [negF_abs ha, negF_abs hb] at hq
    refine bits_of (by rw [negF_len, hl.1]) ?_
    rw [negF_num, hl.1, hq, tdiv_abs, (sg16 ha).2.2.2.2, (sg16 hb).2.2.2.2]
    have hle := Nat.div_le_self (sg a).natAbs (sg b).natAbs
    have h1 := (sg16 ha).2.1
    have h2 := (sg16 ha).2.2.1
    unfold wr
    split <;> omega
theorem division_r {a b : List Bool} (ha : a.length = 16) (hb : b.length = 16) : (divisionF a b).2 = bitsR 16 (if sg b = 0 then sg a else (sg a).tmod (sg b)) := by
  have hl := divF_len (negF (b.getD 15 false) b) (negF (a.getD 15 false) a)
  rw [negF_len, negF_len, ha, hb] at hl
  have ht : ((divF (negF (b.getD 15 false) b) (negF (a.getD 15 false) a)).2.take 16).length = 16 := by rw [List.length_take, hl.2]; rfl
  unfold divisionF
  simp only [ha]
  rw [muxF_eq _ (by rw [negF_len, ht, ha]), zeroF_iff]
  obtain ⟨h5, h1, h2, h6, h7⟩ := sg16 ha
  by_cases h0 : num b = 0
  · rw [decide_eq_true h0, if_pos rfl, if_pos (sg_zero.1 h0)]
    exact bits_of ha h6
  · have hs : sg b ≠ 0 := fun e => h0 (sg_zero.2 e)
    rw [decide_eq_false h0, if_neg (by simp), if_neg hs]
    have hpos : 0 < num (negF (b.getD 15 false) b) := by rw [negF_abs hb]; omega
    have hq := (divF_qr hpos (negF (a.getD 15 false) a)).2
    rw [negF_abs ha, negF_abs hb] at hq
    have hlt := Nat.mod_lt (sg a).natAbs (show 0 < (sg b).natAbs by omega)
    have hle := Nat.mod_le (sg a).natAbs (sg b).natAbs
    refine bits_of (by rw [negF_len, ht]) ?_
    rw [negF_num, ht, num_take _ _ (by rw [hl.2]; decide), hq, tmod_abs, h7]
    split <;> omega

theorem truth_bits (x : Bool) : [x] = bitsR 1 (truth x) := by cases x <;> rfl
theorem one_bit {l : List Bool} (h : l.length = 1) : ∃ x, l = [x] := by
  match l, h with
  | [x], _ => exact ⟨x, rfl⟩
theorem sg_one (x : Bool) : sg [x] = truth x := by cases x <;> rfl
theorem sg_inj {a b : List Bool} (h : a.length = b.length) : sg a = sg b ↔ a = b := by
  constructor
  · intro e
    refine num_inj _ _ h ?_
    have h1 := num_lt a
    have h2 := num_lt b
    unfold sg at e
    by_cases h16 : a.length = 16
    · have h16' : b.length = 16 := by omega
      rw [h16] at h1
      rw [h16'] at h2
      split at e <;> split at e <;> omega
    · rw [if_neg (by omega), if_neg (by omega)] at e
      omega
  · intro e; rw [e]

/-- the number of bits of operands -/
def widthF (op : Int) (n : Nat) : Nat := if op = 1 ∨ op = 3 ∨ op = 4 ∨ op = 5 then 1 else if op = 11 ∨ op = 12 then min (max n 1) 16 else 16
def outF (op : Int) : Nat := if op = 2 ∨ (6 ≤ op ∧ op ≤ 10) then 16 else 1
theorem operate_law {op : Int} (hop : 1 ≤ op ∧ op ≤ 16) {a b : List Bool} (ha : a.length = widthF op a.length) (hb : b.length = a.length) (hu : op ≤ 2 → b = a) : operateF op a b = bitsR (outF op) (opF op (sg a) (sg b)) := by
  have hop' : op = 1 ∨ op = 2 ∨ op = 3 ∨ op = 4 ∨ op = 5 ∨ op = 6 ∨ op = 7 ∨ op = 8 ∨ op = 9 ∨ op = 10 ∨ op = 11 ∨ op = 12 ∨ op = 13 ∨ op = 14 ∨ op = 15 ∨ op = 16 := by omega
  rcases hop' with rfl | rfl | rfl | rfl | rfl | rfl | rfl | rfl | rfl | rfl | rfl | rfl | rfl | rfl | rfl | rfl
  · obtain ⟨x, rfl⟩ := one_bit ha
    cases x <;> rfl
  · have ha' : a.length = 16 := ha
    obtain ⟨h1, h2, h3, h4, h5⟩ := sg16 ha'
    refine bits_of (w := 16) (by show (negF true a).length = 16; rw [negF_len, ha']) ?_
    show (num (negF true a) : Int) = wr (-(wr (sg a))) % _
    rw [negF_num, if_pos rfl, ha', wr_id ⟨h2, h3⟩]
    unfold wr
    omega
  · obtain ⟨x, rfl⟩ := one_bit ha
    obtain ⟨y, rfl⟩ := one_bit hb
    cases x <;> cases y <;> rfl
  · obtain ⟨x, rfl⟩ := one_bit ha
    obtain ⟨y, rfl⟩ := one_bit hb
    cases x <;> cases y <;> rfl
  · obtain ⟨x, rfl⟩ := one_bit ha
    obtain ⟨y, rfl⟩ := one_bit hb
    cases x <;> cases y <;> rfl
  · have ha' : a.length = 16 := ha
    obtain ⟨h1, h2, h3, h4, h5⟩ := sg16 ha'
    obtain ⟨k1, k2, k3, k4, k5⟩ := sg16 (l := b) (by omega)
    refine bits_of (w := 16) (by show (addF a b false).1.length = 16; rw [addF_len _ (by omega), ha']) ?_
    show (num (addF a b false).1 : Int) = wr (wr (sg a) + wr (sg b)) % _
    rw [addF_mod _ (by omega), ha', wr_id ⟨h2, h3⟩, wr_id ⟨k2, k3⟩]
    simp only [Bool.toNat_false]
    unfold wr
    omega
  · have ha' : a.length = 16 := ha
    obtain ⟨h1, h2, h3, h4, h5⟩ := sg16 ha'
    obtain ⟨k1, k2, k3, k4, k5⟩ := sg16 (l := b) (by omega)
    have hn := num_not b
    rw [show b.length = 16 by omega] at hn
    refine bits_of (w := 16) (by show (addF a (b.map (!·)) true).1.length = 16; rw [addF_len _ (by simp; omega), ha']) ?_
    show (num (addF a (b.map (!·)) true).1 : Int) = wr (wr (sg a) - wr (sg b)) % _
    rw [addF_mod _ (by simp; omega), ha', wr_id ⟨h2, h3⟩, wr_id ⟨k2, k3⟩]
    simp only [Bool.toNat_true]
    unfold wr
    omega
  · have ha' : a.length = 16 := ha
    obtain ⟨h1, h2, h3, h4, h5⟩ := sg16 ha'
    obtain ⟨k1, k2, k3, k4, k5⟩ := sg16 (l := b) (by omega)
    refine bits_of (w := 16) (by show (mulF a b a.length a.length).length = 16; rw [mulF_len _ (by omega) _ (by omega), ha']) ?_
    show (num (mulF a b a.length a.length) : Int) = wr (wr (sg a) * wr (sg b)) % _
    rw [mulF_num rfl (by omega) _ (by omega), wr_id ⟨h2, h3⟩, wr_id ⟨k2, k3⟩, List.take_of_length_le (Nat.le_refl _), ha']
    have e1 : (sg a * sg b) % 65536 = ((num a : Int) * num b) % 65536 := by rw [Int.mul_emod, ← h4, ← k4]
    have e2 : (((num a * num b : Nat) : Int)) % 65536 = ((num a : Int) * num b) % 65536 := by rw [Int.natCast_mul]
    generalize sg a * sg b = X at *
    generalize num a * num b = Y at *
    unfold wr
    omega
  · have ha' : a.length = 16 := ha
    obtain ⟨h1, h2, h3, h4, h5⟩ := sg16 ha'
    obtain ⟨k1, k2, k3, k4, k5⟩ := sg16 (l := b) (by omega)
    show (divisionF a b).1 = bitsR 16 (if wr (sg b) = 0 then 0 else wr ((wr (sg a)).tdiv (wr (sg b))))
    rw [wr_id ⟨h2, h3⟩, wr_id ⟨k2, k3⟩]
    exact division_q ha' (by omega)
  · have ha' : a.length = 16 := ha
    obtain ⟨h1, h2, h3, h4, h5⟩ := sg16 ha'
    obtain ⟨k1, k2, k3, k4, k5⟩ := sg16 (l := b) (by omega)
    show (divisionF a b).2 = bitsR 16 (if wr (sg b) = 0 then wr (sg a) else (wr (sg a)).tmod (wr (sg b)))
    rw [wr_id ⟨h2, h3⟩, wr_id ⟨k2, k3⟩]
    exact division_r ha' (by omega)
  · show [equalF a b] = bitsR 1 (truth (decide (sg a = sg b)))
    rw [equalF_iff hb.symm, truth_bits]
    congr 2
    exact decide_eq_decide.2 (sg_inj hb.symm).symm
  · show [!equalF a b] = bitsR 1 (truth (!decide (sg a = sg b)))
    rw [equalF_iff hb.symm, truth_bits]
    congr 3
    exact decide_eq_decide.2 (sg_inj hb.symm).symm
  · show [lessF a b] = bitsR 1 (truth (decide (sg a < sg b)))
    rw [lessF_iff ha (by rw [hb]; exact ha), truth_bits]
  · show [!lessF b a] = bitsR 1 (truth (decide (sg a ≤ sg b)))
    rw [lessF_iff (by rw [hb]; exact ha) ha, truth_bits, ← decide_not]
    congr 2
    exact decide_eq_decide.2 (by omega)
  · show [lessF b a] = bitsR 1 (truth (decide (sg b < sg a)))
    rw [lessF_iff (by rw [hb]; exact ha) ha, truth_bits]
  · show [!lessF a b] = bitsR 1 (truth (decide (sg b ≤ sg a)))
    rw [lessF_iff ha (by rw [hb]; exact ha), truth_bits, ← decide_not]
    congr 2
    exact decide_eq_decide.2 (by omega)
end Go.Z.Bit
