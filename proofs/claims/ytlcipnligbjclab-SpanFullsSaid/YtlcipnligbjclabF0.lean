/- Chapter 40, plain: intervals. No program in sight. Conditions: none. -/
import Derived.Test.YtlcipnligbjclabC2
namespace Go.Z.Val
set_option linter.unusedVariables false
set_option linter.unusedSimpArgs false
set_option linter.unusedSectionVars false
open Go Go.Z

abbrev Sp := Int × Int
def ofS (lo hi : Int) : Sp := if hi < lo then (1, 0) else (lo, hi)
def emptyS (s : Sp) : Bool := decide (s.2 < s.1)
def hasS (s : Sp) (v : Int) : Bool := decide (s.1 ≤ v) && decide (v ≤ s.2)
def withinS (a b : Sp) : Bool := emptyS a || (hasS b a.1 && hasS b a.2)
def joinS (a b : Sp) : Sp := if emptyS a then ofS b.1 b.2 else if emptyS b then a else ofS (min a.1 b.1) (max a.2 b.2)
def meetS (a b : Sp) : Sp := ofS (max a.1 b.1) (min a.2 b.2)
def fullS : Sp := (-32768, 32767)
def wrapS (lo hi : Int) : Sp := if lo < -32768 ∨ 32767 < hi then fullS else ofS lo hi
def aboutS (yes no : Bool) : Sp := if yes then (1, 1) else if no then (0, 0) else (0, 1)
def mostS (a : Sp) : Int := max (max (-a.1) a.1) (max (-a.2) a.2)
def quotS (a b : Sp) : Sp := if 0 ≤ a.1 ∧ 1 ≤ b.1 then ofS (a.1.tdiv b.2) (a.2.tdiv b.1) else if a.1 = -32768 ∧ hasS b (-1) = true then fullS else ofS (-mostS a) (min (mostS a) 32767)
def restM (b : Sp) : Int := if hasS b 0 = true then 32768 else mostS b - 1
def restS (a b : Sp) : Sp := ofS (if a.1 < 0 then max a.1 (-restM b) else 0) (if 0 < a.2 then min a.2 (restM b) else 0)
def mulS (a b : Sp) : Sp := wrapS (min (min (a.1 * b.1) (a.1 * b.2)) (min (a.2 * b.1) (a.2 * b.2))) (max (max (a.1 * b.1) (a.1 * b.2)) (max (a.2 * b.1) (a.2 * b.2)))
def computeS (op : Int) (a b : Sp) : Sp :=
  if op = 1 then ofS (1 - a.2) (1 - a.1) else if op = 3 then ofS (min a.1 b.1) (min a.2 b.2) else if op = 4 then ofS (max a.1 b.1) (max a.2 b.2) else if op = 5 then (0, 1)
  else if op = 2 then wrapS (-a.2) (-a.1) else if op = 6 then wrapS (a.1 + b.1) (a.2 + b.2) else if op = 7 then wrapS (a.1 - b.2) (a.2 - b.1) else if op = 8 then mulS a b
  else if op = 9 then quotS a b else if op = 10 then restS a b
  else if op = 11 then aboutS false (emptyS (meetS a b)) else if op = 12 then aboutS (emptyS (meetS a b)) false
  else if op = 13 then aboutS (decide (a.2 < b.1)) (decide (b.2 ≤ a.1)) else if op = 14 then aboutS (decide (a.2 ≤ b.1)) (decide (b.2 < a.1))
  else if op = 15 then aboutS (decide (b.2 < a.1)) (decide (a.2 ≤ b.1)) else aboutS (decide (b.2 ≤ a.1)) (decide (a.2 < b.1))
def cutS (op : Int) (s : Sp) : Sp := if op = 11 ∨ op = 12 then s else if op = 1 ∨ op = 3 ∨ op = 4 ∨ op = 5 then meetS s (0, 1) else meetS s fullS
def S0 (args : List Sp) : Sp := args.getD 0 (0, 0)
def resS (op : Int) (a b : Sp) : Sp := if a.1 = a.2 ∧ b.1 = b.2 then (opF op a.1 b.1, opF op a.1 b.1) else computeS op a b
def applyS (op : Int) (args : List Sp) : Sp × Int :=
  if (groupF op).1 = 0 then ((0, 0), 2) else if args.length ≠ (groupF op).2 then ((0, 0), 9)
  else if args.any (fun s => emptyS (cutS op s)) then ((1, 0), 0)
  else (resS op (cutS op (args.getD 0 (0, 0))) (cutS op (args.getD ((groupF op).2 - 1) (0, 0))), 0)

theorem ofS_of {lo hi : Int} (h : lo ≤ hi) : ofS lo hi = (lo, hi) := by unfold ofS; rw [if_neg (by omega)]
theorem hasS_iff {s : Sp} {v : Int} : hasS s v = true ↔ s.1 ≤ v ∧ v ≤ s.2 := by unfold hasS; simp
theorem has_of {lo hi v : Int} (h1 : lo ≤ v) (h2 : v ≤ hi) : hasS (ofS lo hi) v = true := by rw [ofS_of (by omega), hasS_iff]; exact ⟨h1, h2⟩
theorem has_full {v : Int} (h : -32768 ≤ v ∧ v ≤ 32767) : hasS fullS v = true := by rw [hasS_iff]; exact h
theorem has_wrap {lo hi x : Int} (h1 : lo ≤ x) (h2 : x ≤ hi) : hasS (wrapS lo hi) (wr x) = true := by
  unfold wrapS
  split
  · exact has_full (wr_in x)
  · rw [wr_id (by omega)]; exact has_of h1 h2
theorem lin {c y1 y y2 : Int} (h1 : y1 ≤ y) (h2 : y ≤ y2) : min (c * y1) (c * y2) ≤ c * y ∧ c * y ≤ max (c * y1) (c * y2) := by
  by_cases hc : 0 ≤ c
  · have a := Int.mul_le_mul_of_nonneg_left h1 hc
    have b := Int.mul_le_mul_of_nonneg_left h2 hc
    omega
  · have a := Int.mul_le_mul_of_nonpos_left (a := c) (by omega) h1
    have b := Int.mul_le_mul_of_nonpos_left (a := c) (by omega) h2
    omega
theorem box {a b : Sp} {x y : Int} (hx : a.1 ≤ x ∧ x ≤ a.2) (hy : b.1 ≤ y ∧ y ≤ b.2) : min (min (a.1 * b.1) (a.1 * b.2)) (min (a.2 * b.1) (a.2 * b.2)) ≤ x * y ∧ x * y ≤ max (max (a.1 * b.1) (a.1 * b.2)) (max (a.2 * b.1) (a.2 * b.2)) := by
  have h := lin (c := y) hx.1 hx.2
  have h1 := lin (c := a.1) hy.1 hy.2
  have h2 := lin (c := a.2) hy.1 hy.2
  rw [Int.mul_comm y a.1, Int.mul_comm y a.2, Int.mul_comm y x] at h
  omega
theorem has_about {yes no : Bool} {p : Bool} (h1 : yes = true → p = true) (h2 : no = true → p = false) : hasS (aboutS yes no) (truth p) = true := by
  unfold aboutS
  cases yes with
  | true => rw [h1 rfl]; rfl
  | false =>
    cases no with
    | true => rw [h2 rfl]; rfl
    | false => cases p <;> rfl
theorem abs_mono {b : Sp} {y : Int} (hy : b.1 ≤ y ∧ y ≤ b.2) : -mostS b ≤ y ∧ y ≤ mostS b := by unfold mostS; omega

theorem has_quot {a b : Sp} {x y : Int} (hx : a.1 ≤ x ∧ x ≤ a.2) (hy : b.1 ≤ y ∧ y ≤ b.2) (ha : -32768 ≤ a.1 ∧ a.2 ≤ 32767) : hasS (quotS a b) (if y = 0 then 0 else wr (x.tdiv y)) = true := by
  unfold quotS
  have habs : (x.tdiv y).natAbs ≤ x.natAbs := by rw [Int.natAbs_tdiv]; exact Nat.div_le_self _ _
  split
  · rename_i h
    have hy0 : 0 < y := by omega
    have hx0 : 0 ≤ x := by omega
    rw [if_neg (by omega)]
    have e1 : 0 ≤ x.tdiv y := Int.tdiv_nonneg hx0 (by omega)
    rw [wr_id (by omega)]
    refine has_of ?_ ?_
    · rw [Int.tdiv_eq_ediv_of_nonneg (by omega : 0 ≤ a.1), Int.tdiv_eq_ediv_of_nonneg hx0]
      refine Int.le_ediv_of_mul_le hy0 ?_
      have hb2 : 0 < b.2 := by omega
      have q0 : 0 ≤ a.1 / b.2 := Int.ediv_nonneg (by omega) (by omega)
      have q1 : a.1 / b.2 * y ≤ a.1 / b.2 * b.2 := Int.mul_le_mul_of_nonneg_left hy.2 q0
      have q2 := Int.ediv_mul_le a.1 (b := b.2) (by omega)
      omega
    · rw [Int.tdiv_eq_ediv_of_nonneg hx0, Int.tdiv_eq_ediv_of_nonneg (by omega : 0 ≤ a.2)]
      refine Int.le_ediv_of_mul_le (by omega) ?_
      have q0 : 0 ≤ x / y := Int.ediv_nonneg hx0 (by omega)
      have q1 : x / y * b.1 ≤ x / y * y := Int.mul_le_mul_of_nonneg_left hy.1 q0
      have q2 := Int.ediv_mul_le x (b := y) (by omega)
      omega
  · split
    · refine has_full ?_
      split
      · decide
      · exact wr_in _
    · rename_i h1 h2
      have hm := abs_mono hx
      split
      · refine has_of ?_ ?_ <;> omega
      · rename_i hy0
        have hne : ¬ (x = -32768 ∧ y = -1) := by
          rintro ⟨e1, e2⟩
          exact h2 ⟨by omega, by rw [hasS_iff]; omega⟩
        have hup : x.tdiv y ≤ 32767 := by
          by_cases e1 : x = -32768
          · have e2 : ¬ y = -1 := fun e2 => hne ⟨e1, e2⟩
            by_cases e3 : y = 1
            · subst e3; rw [Int.tdiv_one]; omega
            · have : (x.tdiv y).natAbs ≤ 16384 := by
                rw [Int.natAbs_tdiv]
                show x.natAbs / y.natAbs ≤ 16384
                have : x.natAbs / y.natAbs ≤ x.natAbs / 2 := Nat.div_le_div_left (by omega) (by omega)
                omega
              omega
          · omega
        rw [wr_id (by omega)]
        exact has_of (by omega) (by omega)
theorem tmod_abs (x y : Int) (hy : y ≠ 0) : (x.tmod y).natAbs ≤ x.natAbs ∧ (x.tmod y).natAbs < y.natAbs ∧ (0 ≤ x → 0 ≤ x.tmod y) ∧ (x ≤ 0 → x.tmod y ≤ 0) := by
  refine ⟨?_, ?_, fun h => Int.tmod_nonneg y h, fun h => ?_⟩
  · rw [Int.natAbs_tmod]; exact Nat.mod_le _ _
  · rw [Int.natAbs_tmod]; exact Nat.mod_lt _ (by omega)
  · have := Int.tmod_nonneg y (a := -x) (by omega)
    rw [Int.neg_tmod] at this; omega
theorem has_rest {a b : Sp} {x y : Int} (hx : a.1 ≤ x ∧ x ≤ a.2) (hy : b.1 ≤ y ∧ y ≤ b.2) (ha : -32768 ≤ a.1 ∧ a.2 ≤ 32767) : hasS (restS a b) (if y = 0 then x else x.tmod y) = true := by
  have hm : -restM b ≤ (if y = 0 then x else x.tmod y) ∧ (if y = 0 then x else x.tmod y) ≤ restM b := by
    unfold restM
    split
    · split
      · omega
      · have := tmod_abs x y (by assumption); omega
    · rename_i h
      have hy0 : y ≠ 0 := fun e => h (by rw [hasS_iff]; omega)
      rw [if_neg hy0]
      have h1 := tmod_abs x y hy0
      have h2 := abs_mono hy
      omega
  have hs : (0 ≤ x → 0 ≤ (if y = 0 then x else x.tmod y) ∧ (if y = 0 then x else x.tmod y) ≤ x) ∧ (x ≤ 0 → x ≤ (if y = 0 then x else x.tmod y) ∧ (if y = 0 then x else x.tmod y) ≤ 0) := by
    split
    · constructor <;> intro h <;> omega
    · have := tmod_abs x y (by assumption)
      constructor <;> intro h <;> omega
  generalize (if y = 0 then x else x.tmod y) = r at *
  unfold restS
  refine has_of ?_ ?_
  · split <;> omega
  · split <;> omega
theorem op_cases {op : Int} (h : (groupF op).1 ≠ 0) : 1 ≤ op ∧ op ≤ 16 := by
  unfold groupF at h
  (repeat' split at h) <;> first | omega | (exact absurd rfl h)
theorem op_num {op : Int} (h : 1 ≤ op ∧ op ≤ 16) : op = 1 ∨ op = 2 ∨ op = 3 ∨ op = 4 ∨ op = 5 ∨ op = 6 ∨ op = 7 ∨ op = 8 ∨ op = 9 ∨ op = 10 ∨ op = 11 ∨ op = 12 ∨ op = 13 ∨ op = 14 ∨ op = 15 ∨ op = 16 := by omega
theorem arg_range {op v : Int} (hg : (groupF op).1 ≠ 0) (h : argB (groupF op).1 v = true) (h1 : ¬ (op = 11 ∨ op = 12)) : -32768 ≤ v ∧ v ≤ 32767 := by
  rcases op_num (op_cases hg) with e | e | e | e | e | e | e | e | e | e | e | e | e | e | e | e <;> subst e <;> simp [groupF, argB] at h h1 <;> omega
theorem arg_bool {op v : Int} (h : argB (groupF op).1 v = true) (h1 : op = 1 ∨ op = 3 ∨ op = 4 ∨ op = 5) : v = 0 ∨ v = 1 := by
  rcases h1 with e | e | e | e <;> subst e <;> simpa [groupF, argB] using h
theorem cut_has {op v : Int} {s : Sp} (hg : (groupF op).1 ≠ 0) (h : hasS s v = true) (h2 : argB (groupF op).1 v = true) : ((cutS op s).1 ≤ v ∧ v ≤ (cutS op s).2) ∧ (¬ (op = 11 ∨ op = 12) → -32768 ≤ (cutS op s).1 ∧ (cutS op s).2 ≤ 32767) ∧ ((op = 1 ∨ op = 3 ∨ op = 4 ∨ op = 5) → 0 ≤ (cutS op s).1 ∧ (cutS op s).2 ≤ 1) := by
  rw [hasS_iff] at h
  unfold cutS
  split
  · exact ⟨h, fun hh => absurd (by assumption) hh, fun hh => by omega⟩
  · split
    · rename_i h1 h3
      have h2 := arg_bool h2 h3
      unfold meetS
      rw [ofS_of (by dsimp only; omega)]
      exact ⟨by dsimp only; omega, fun _ => by dsimp only; omega, fun _ => by dsimp only; omega⟩
    · rename_i h1 h3
      have hv := arg_range hg h2 h1
      unfold meetS fullS
      rw [ofS_of (by dsimp only; omega)]
      exact ⟨by dsimp only; omega, fun _ => by dsimp only; omega, fun hh => absurd hh h3⟩
theorem meet_empty {a b : Sp} {x : Int} (h1 : a.1 ≤ x ∧ x ≤ a.2) (h2 : b.1 ≤ x ∧ x ≤ b.2) : emptyS (meetS a b) = false := by
  unfold meetS emptyS; rw [ofS_of (by omega)]; simp; omega
theorem comp_has {op x y : Int} {a b : Sp} (hg : (groupF op).1 ≠ 0) (hx : a.1 ≤ x ∧ x ≤ a.2) (hy : b.1 ≤ y ∧ y ≤ b.2) (hr : ¬ (op = 11 ∨ op = 12) → (-32768 ≤ a.1 ∧ a.2 ≤ 32767) ∧ (-32768 ≤ b.1 ∧ b.2 ≤ 32767)) (hb : op = 1 ∨ op = 3 ∨ op = 4 ∨ op = 5 → (x = 0 ∨ x = 1) ∧ (y = 0 ∨ y = 1)) : hasS (computeS op a b) (opF op x y) = true := by
  rcases op_num (op_cases hg) with e | e | e | e | e | e | e | e | e | e | e | e | e | e | e | e <;> subst e
  · have e : opF 1 x y = truth (decide (x = 0)) := rfl
    rw [e]
    show hasS (ofS _ _) _ = true
    have hb := hb (by omega)
    rcases hb.1 with rfl | rfl <;> exact has_of (by simp [truth] <;> omega) (by simp [truth] <;> omega)
  · have e : opF 2 x y = wr (-(wr x)) := rfl
    have hr := hr (by omega)
    rw [e, wr_id (n := x) (by omega)]
    exact has_wrap (by omega) (by omega)
  · have e : opF 3 x y = truth (decide (x = 1) && decide (y = 1)) := rfl
    rw [e]
    show hasS (ofS _ _) _ = true
    obtain ⟨h1, h2⟩ := hb (by omega)
    rcases h1 with rfl | rfl <;> rcases h2 with rfl | rfl <;> exact has_of (by simp [truth] <;> omega) (by simp [truth] <;> omega)
  · have e : opF 4 x y = truth (decide (x = 1) || decide (y = 1)) := rfl
    rw [e]
    show hasS (ofS _ _) _ = true
    obtain ⟨h1, h2⟩ := hb (by omega)
    rcases h1 with rfl | rfl <;> rcases h2 with rfl | rfl <;> exact has_of (by simp [truth] <;> omega) (by simp [truth] <;> omega)
  · have e : opF 5 x y = truth (!decide (x = y)) := rfl
    rw [e]
    show hasS (0, 1) _ = true
    cases (!decide (x = y)) <;> rfl
  · have e : opF 6 x y = wr (wr x + wr y) := rfl
    have hr := hr (by omega)
    rw [e, wr_id (n := x) (by omega), wr_id (n := y) (by omega)]
    exact has_wrap (by omega) (by omega)
  · have e : opF 7 x y = wr (wr x - wr y) := rfl
    have hr := hr (by omega)
    rw [e, wr_id (n := x) (by omega), wr_id (n := y) (by omega)]
    exact has_wrap (by omega) (by omega)
  · have e : opF 8 x y = wr (wr x * wr y) := rfl
    have hr := hr (by omega)
    rw [e, wr_id (n := x) (by omega), wr_id (n := y) (by omega)]
    exact has_wrap (box hx hy).1 (box hx hy).2
  · have e : opF 9 x y = if wr y = 0 then 0 else wr ((wr x).tdiv (wr y)) := rfl
    have hr := hr (by omega)
    rw [e, wr_id (n := x) (by omega), wr_id (n := y) (by omega)]
    exact has_quot hx hy hr.1
  · have e : opF 10 x y = if wr y = 0 then wr x else (wr x).tmod (wr y) := rfl
    have hr := hr (by omega)
    rw [e, wr_id (n := x) (by omega), wr_id (n := y) (by omega)]
    exact has_rest hx hy hr.1
  · have e : opF 11 x y = truth (decide (x = y)) := rfl
    rw [e]
    show hasS (aboutS false _) _ = true
    refine has_about (fun h => by cases h) (fun h => decide_eq_false fun e => ?_)
    subst e
    rw [meet_empty hx hy] at h; cases h
  · have e : opF 12 x y = truth (!decide (x = y)) := rfl
    rw [e]
    show hasS (aboutS _ false) _ = true
    refine has_about (fun h => ?_) (fun h => by cases h)
    rw [decide_eq_false fun e => ?_]; rfl
    subst e
    rw [meet_empty hx hy] at h; cases h
  · have e : opF 13 x y = truth (decide (x < y)) := rfl
    rw [e]
    show hasS (aboutS _ _) _ = true
    exact has_about (fun h => decide_eq_true (by have := of_decide_eq_true h; omega)) (fun h => decide_eq_false (by have := of_decide_eq_true h; omega))
  · have e : opF 14 x y = truth (decide (x ≤ y)) := rfl
    rw [e]
    show hasS (aboutS _ _) _ = true
    exact has_about (fun h => decide_eq_true (by have := of_decide_eq_true h; omega)) (fun h => decide_eq_false (by have := of_decide_eq_true h; omega))
  · have e : opF 15 x y = truth (decide (y < x)) := rfl
    rw [e]
    show hasS (aboutS _ _) _ = true
    exact has_about (fun h => decide_eq_true (by have := of_decide_eq_true h; omega)) (fun h => decide_eq_false (by have := of_decide_eq_true h; omega))
  · have e : opF 16 x y = truth (decide (y ≤ x)) := rfl
    rw [e]
    show hasS (aboutS _ _) _ = true
    exact has_about (fun h => decide_eq_true (by have := of_decide_eq_true h; omega)) (fun h => decide_eq_false (by have := of_decide_eq_true h; omega))
/-- the result of an operator on numbers of intervals is in the interval of the operator -/
theorem res_has {op x y : Int} {a b : Sp} (hg : (groupF op).1 ≠ 0) (hx : hasS a x = true) (hy : hasS b y = true) (ax : argB (groupF op).1 x = true) (ay : argB (groupF op).1 y = true) : emptyS (cutS op a) = false ∧ emptyS (cutS op b) = false ∧ hasS (resS op (cutS op a) (cutS op b)) (opF op x y) = true := by
  obtain ⟨c1, c2, c3⟩ := cut_has hg hx ax
  obtain ⟨d1, d2, d3⟩ := cut_has hg hy ay
  refine ⟨by unfold emptyS; rw [decide_eq_false (by omega)], by unfold emptyS; rw [decide_eq_false (by omega)], ?_⟩
  unfold resS
  split
  · rename_i h
    rw [show (cutS op a).1 = x by omega, show (cutS op b).1 = y by omega, hasS_iff]
    exact ⟨Int.le_refl _, Int.le_refl _⟩
  · exact comp_has hg c1 d1 (fun h => ⟨c2 h, d2 h⟩) (fun h => ⟨arg_bool ax h, arg_bool ay h⟩)
end Go.Z.Val
