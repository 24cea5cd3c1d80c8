/- Chapter 38, plain: binary numbers, and what the circuits compute on bits. No program in sight. Conditions: none. -/
import Derived.Test.YtkebblmmgcgjkaaC0
namespace Go.Z.Bit
set_option maxRecDepth 8000
set_option linter.unusedVariables false
set_option linter.unusedSimpArgs false
set_option linter.unusedSectionVars false
open Go Go.Z Go.Z.Val

def num : List Bool → Nat
  | [] => 0
  | b :: l => b.toNat + 2 * num l
def bitsR : Nat → Int → List Bool
  | 0, _ => []
  | w + 1, n => decide (n % 2 = 1) :: bitsR w (n / 2)
theorem bitsR_len : ∀ (w : Nat) (n : Int), (bitsR w n).length = w
  | 0, _ => rfl
  | w + 1, n => by rw [bitsR, List.length_cons, bitsR_len w]
theorem num_lt : ∀ l : List Bool, num l < 2 ^ l.length
  | [] => by decide
  | b :: l => by
    have := num_lt l
    rw [num, List.length_cons, Nat.pow_succ]
    cases b <;> simp <;> omega
theorem num_append : ∀ l r : List Bool, num (l ++ r) = num l + 2 ^ l.length * num r
  | [], r => by simp [num]
  | b :: l, r => by
    rw [List.cons_append, num, num, num_append l r, List.length_cons, Nat.pow_succ, Nat.mul_add, Nat.mul_comm (2 ^ l.length) 2, Nat.mul_assoc]; omega
theorem num_rep : ∀ n : Nat, num (List.replicate n false) = 0
  | 0 => rfl
  | n + 1 => by rw [List.replicate_succ, num, num_rep n]; rfl
theorem num_not : ∀ l : List Bool, num (l.map (!·)) + num l + 1 = 2 ^ l.length
  | [] => rfl
  | b :: l => by
    have := num_not l
    rw [List.map_cons, num, num, List.length_cons, Nat.pow_succ]
    cases b <;> simp <;> omega
theorem num_inj : ∀ l r : List Bool, l.length = r.length → num l = num r → l = r
  | [], [], _, _ => rfl
  | [], _ :: _, h, _ => by cases h
  | _ :: _, [], h, _ => by cases h
  | a :: l, b :: r, h, e => by
    rw [num, num] at e
    have h1 : a = b := by
      have ha : a.toNat ≤ 1 := by cases a <;> decide
      have hb : b.toNat ≤ 1 := by cases b <;> decide
      have hab : a.toNat = b.toNat := by omega
      cases a <;> cases b <;> first | rfl | cases hab
    subst h1
    have hl : l.length = r.length := Nat.succ.inj h
    have hn : num l = num r := by omega
    rw [num_inj l r hl hn]
theorem num_bits : ∀ (w : Nat) (n : Int), (num (bitsR w n) : Int) = n % (2 ^ w : Nat)
  | 0, n => by rw [bitsR, num]; simp
  | w + 1, n => by
    rw [bitsR, num]
    have h := num_bits w (n / 2)
    have hp : (2 ^ (w + 1) : Nat) = 2 * 2 ^ w := by rw [Nat.pow_succ, Nat.mul_comm]
    have hP : (0 : Int) < ((2 ^ w : Nat) : Int) := by have := Nat.one_le_two_pow (n := w); omega
    have h2 : n % ((2 * 2 ^ w : Nat) : Int) = n % 2 + 2 * (n / 2 % ((2 ^ w : Nat) : Int)) := by
      rw [Int.natCast_mul]
      generalize ((2 ^ w : Nat) : Int) = P at hP
      have e1 := Int.emod_add_mul_ediv (n / 2) P
      have e2 := Int.emod_nonneg (n / 2) (Int.ne_of_gt hP)
      have e3 := Int.emod_lt_of_pos (n / 2) hP
      have e4 : n = (n % 2 + 2 * (n / 2 % P)) + (2 * P) * (n / 2 / P) := by rw [Int.mul_assoc]; omega
      have e5 : n % (2 * P) = (n % 2 + 2 * (n / 2 % P)) % (2 * P) := by
        conv => lhs; rw [e4]
        exact Int.add_mul_emod_self_left _ _ _
      rw [show (((2 : Nat) : Int)) = 2 from rfl, e5, Int.emod_eq_of_lt (by omega) (by omega)]
    rw [hp, h2, ← h]
    rcases Int.emod_two_eq n with e | e <;> rw [e] <;> simp
/-- the only list with a number -/
theorem bits_of {l : List Bool} {w : Nat} (hl : l.length = w) {n : Int} (h : (num l : Int) = n % (2 ^ w : Nat)) : l = bitsR w n :=
  num_inj _ _ (by rw [hl, bitsR_len]) (by have := num_bits w n; omega)
theorem num_take (l : List Bool) (k : Nat) (hk : k ≤ l.length) : num (l.take k) = num l % 2 ^ k := by
  have h := num_append (l.take k) (l.drop k)
  rw [List.take_append_drop, List.length_take, Nat.min_eq_left hk] at h
  have h2 := num_lt (l.take k)
  rw [List.length_take, Nat.min_eq_left hk] at h2
  rw [h, Nat.add_mul_mod_self_left, Nat.mod_eq_of_lt h2]
theorem num_zero : ∀ l : List Bool, num l = 0 ↔ ∀ b ∈ l, b = false
  | [] => by simp [num]
  | b :: l => by
    have h := num_zero l
    rw [num]
    constructor
    · intro e c hc
      have hb : b.toNat ≤ 1 := by cases b <;> decide
      rcases List.mem_cons.1 hc with rfl | hc
      · cases c
        · rfl
        · simp at e
      · exact h.1 (by omega) c hc
    · intro e
      rw [e b (by simp), h.2 fun c hc => e c (by simp [hc])]; rfl

/-! ### sums -/
def addF : List Bool → List Bool → Bool → List Bool × Bool
  | a :: as, b :: bs, c => (((a != b) != c) :: (addF as bs (if a != b then c else a)).1, (addF as bs (if a != b then c else a)).2)
  | _, _, c => ([], c)
theorem addF_num : ∀ (as bs : List Bool) (c : Bool), as.length = bs.length → (addF as bs c).1.length = as.length ∧ num (addF as bs c).1 + 2 ^ as.length * (addF as bs c).2.toNat = num as + num bs + c.toNat
  | [], [], c, _ => by simp [addF, num]
  | [], _ :: _, _, h => by cases h
  | _ :: _, [], _, h => by cases h
  | a :: as, b :: bs, c, h => by
    obtain ⟨h1, h2⟩ := addF_num as bs (if a != b then c else a) (by simpa using h)
    rw [addF]
    refine ⟨by rw [List.length_cons, List.length_cons, h1], ?_⟩
    dsimp only
    rw [num, num, num, List.length_cons, Nat.pow_succ, Nat.mul_comm (2 ^ as.length) 2, Nat.mul_assoc]
    cases a <;> cases b <;> cases c <;> simp at h2 ⊢ <;> omega
theorem addF_snoc : ∀ (as bs : List Bool) (c x y : Bool), as.length = bs.length → addF (as ++ [x]) (bs ++ [y]) c = ((addF as bs c).1 ++ [(x != y) != (addF as bs c).2], if x != y then (addF as bs c).2 else x)
  | [], [], c, x, y, _ => by simp [addF]
  | [], _ :: _, _, _, _, h => by cases h
  | _ :: _, [], _, _, _, h => by cases h
  | a :: as, b :: bs, c, x, y, h => by
    rw [List.cons_append, List.cons_append, addF, addF_snoc as bs _ x y (by simpa using h), addF]
    simp
theorem addF_len {as bs : List Bool} (c : Bool) (h : as.length = bs.length) : (addF as bs c).1.length = as.length := (addF_num as bs c h).1
theorem addF_mod {as bs : List Bool} (c : Bool) (h : as.length = bs.length) : num (addF as bs c).1 = (num as + num bs + c.toNat) % 2 ^ as.length := by
  obtain ⟨h1, h2⟩ := addF_num as bs c h
  have h3 := num_lt (addF as bs c).1
  rw [h1] at h3
  rw [← h2, Nat.add_mul_mod_self_left, Nat.mod_eq_of_lt h3]
theorem addF_carry {as bs : List Bool} (h : as.length = bs.length) : (addF as (bs.map (!·)) true).2 = decide (num bs ≤ num as) := by
  obtain ⟨h1, h2⟩ := addF_num as (bs.map (!·)) true (by simpa using h)
  have h3 := num_lt (addF as (bs.map (!·)) true).1
  have h4 := num_not bs
  rw [h1] at h3
  rw [← h] at h4
  have h5 := num_lt as
  cases hc : (addF as (bs.map (!·)) true).2 with
  | true => rw [hc] at h2; simp at h2; symm; rw [decide_eq_true_iff]; omega
  | false => rw [hc] at h2; simp at h2; symm; rw [decide_eq_false_iff_not]; omega
theorem addF_sub {as bs : List Bool} (h : as.length = bs.length) (hle : num bs ≤ num as) : num (addF as (bs.map (!·)) true).1 = num as - num bs := by
  have h1 := addF_mod (as := as) (bs := bs.map (!·)) true (by simpa using h)
  have h4 := num_not bs
  rw [← h] at h4
  have h5 := num_lt as
  rw [h1, show num as + num (bs.map (!·)) + true.toNat = (num as - num bs) + 2 ^ as.length by simp; omega, Nat.add_mod_right, Nat.mod_eq_of_lt (by omega)]

def negF (c : Bool) (as : List Bool) : List Bool := (addF (as.map (c != ·)) (List.replicate as.length false) c).1
theorem negF_len (c : Bool) (as : List Bool) : (negF c as).length = as.length := by unfold negF; rw [addF_len _ (by simp)]; simp
theorem negF_num (c : Bool) (as : List Bool) : num (negF c as) = if c then (2 ^ as.length - num as) % 2 ^ as.length else num as := by
  unfold negF
  rw [addF_mod _ (by simp), num_rep]
  cases c with
  | true =>
    have h : as.map (true != ·) = as.map (!·) := by apply List.map_congr_left; intro a _; cases a <;> rfl
    have h4 := num_not as
    rw [h, if_pos rfl, List.length_map, show num (as.map (!·)) + 0 + true.toNat = 2 ^ as.length - num as by simp; omega]
  | false =>
    have h : as.map (false != ·) = as := by rw [show (fun x => false != x) = (id : Bool → Bool) by funext x; cases x <;> rfl, List.map_id]
    rw [h]; simp
    exact Nat.mod_eq_of_lt (num_lt as)

/-! ### products -/
def rowF (x : Bool) (b : List Bool) (i n : Nat) : List Bool := List.replicate i false ++ (b.take (n - i)).map (x && ·)
def mulF (a b : List Bool) (n : Nat) : Nat → List Bool
  | 0 => List.replicate n false
  | k + 1 => (addF (mulF a b n k) (rowF (a.getD k false) b k n) false).1
theorem num_andmap (x : Bool) : ∀ l : List Bool, num (l.map (x && ·)) = x.toNat * num l
  | [] => by simp [num]
  | b :: l => by rw [List.map_cons, num, num, num_andmap x l]; cases x <;> cases b <;> simp
theorem rowF_len (x : Bool) {b : List Bool} {i n : Nat} (hb : b.length = n) (hi : i ≤ n) : (rowF x b i n).length = n := by
  unfold rowF; simp; omega
theorem rowF_num (x : Bool) {b : List Bool} {i n : Nat} (hb : b.length = n) (hi : i ≤ n) : num (rowF x b i n) = (x.toNat * 2 ^ i * num b) % 2 ^ n := by
  unfold rowF
  rw [num_append, num_rep, num_andmap, num_take _ _ (by omega), List.length_replicate, Nat.zero_add]
  cases x with
  | false => simp
  | true =>
    simp only [Bool.toNat_true, Nat.one_mul]
    obtain ⟨d, rfl⟩ : ∃ d, n = i + d := ⟨n - i, by omega⟩
    rw [show i + d - i = d by omega, Nat.pow_add, Nat.mul_mod_mul_left]
theorem mulF_len (a : List Bool) {b : List Bool} {n : Nat} (hb : b.length = n) : ∀ k, k ≤ n → (mulF a b n k).length = n
  | 0, _ => by simp [mulF]
  | k + 1, h => by
    have h1 := mulF_len a hb k (by omega)
    rw [mulF, addF_len _ (by rw [h1, rowF_len _ hb (by omega)]), h1]
theorem num_take_succ {a : List Bool} {k : Nat} (hk : k < a.length) : num (a.take (k + 1)) = num (a.take k) + 2 ^ k * (a.getD k false).toNat := by
  rw [List.take_add_one, num_append, List.length_take, Nat.min_eq_left (by omega), List.getElem?_eq_getElem hk, List.getD_eq_getElem?_getD, List.getElem?_eq_getElem hk]
  simp [num]
theorem mulF_num {a b : List Bool} {n : Nat} (ha : a.length = n) (hb : b.length = n) : ∀ k, k ≤ n → num (mulF a b n k) = (num (a.take k) * num b) % 2 ^ n
  | 0, _ => by simp [mulF, num_rep, num]
  | k + 1, h => by
    have h1 := mulF_num ha hb k (by omega)
    have h2 := mulF_len a hb k (by omega)
    rw [mulF, addF_mod _ (by rw [h2, rowF_len _ hb (by omega)]), h1, rowF_num _ hb (by omega), h2, num_take_succ (by omega)]
    simp only [Bool.toNat_false, Nat.add_zero]
    rw [← Nat.add_mod, Nat.add_mul, Nat.mul_comm (2 ^ k) (a.getD k false).toNat]

/-! ### quotients -/
def divF (b : List Bool) : List Bool → List Bool × List Bool
  | [] => ([], List.replicate (b.length + 1) false)
  | x :: as =>
    let r := x :: (divF b as).2.take b.length
    let d := addF r ((b ++ [false]).map (!·)) true
    (d.2 :: (divF b as).1, if d.2 then d.1 else r)
theorem divF_len (b : List Bool) : ∀ as, (divF b as).1.length = as.length ∧ (divF b as).2.length = b.length + 1
  | [] => by simp [divF]
  | x :: as => by
    obtain ⟨h1, h2⟩ := divF_len b as
    have hr : (x :: (divF b as).2.take b.length).length = ((b ++ [false]).map (!·)).length := by simp [h2]
    rw [divF]
    refine ⟨by simp [h1], ?_⟩
    dsimp only
    split
    · rw [addF_len _ hr]; simp [h2]
    · simp [h2]
theorem divF_num {b : List Bool} (hb : 0 < num b) : ∀ as, num as = num (divF b as).1 * num b + num (divF b as).2 ∧ num (divF b as).2 < num b
  | [] => by simp [divF, num, num_rep, hb]
  | x :: as => by
    obtain ⟨h1, h2⟩ := divF_num hb as
    obtain ⟨_, h3⟩ := divF_len b as
    have h4 := num_lt b
    have hr : (x :: (divF b as).2.take b.length).length = (b ++ [false]).length := by simp [h3]
    have hw : num (b ++ [false]) = num b := by rw [num_append]; simp [num]
    have ht : num ((divF b as).2.take b.length) = num (divF b as).2 := by rw [num_take _ _ (by omega)]; exact Nat.mod_eq_of_lt (by omega)
    have hR : num (x :: (divF b as).2.take b.length) = x.toNat + 2 * num (divF b as).2 := by rw [num, ht]
    have hc := addF_carry hr
    rw [hw, hR] at hc
    rw [divF]
    dsimp only
    rw [num, num]
    have hm : (2 * num (divF b as).1 + 0) * num b = 2 * (num (divF b as).1 * num b) := by rw [Nat.add_zero, Nat.mul_assoc]
    by_cases hle : num b ≤ x.toNat + 2 * num (divF b as).2
    · have hs := addF_sub hr (by rw [hw, hR]; exact hle)
      rw [hw, hR] at hs
      rw [decide_eq_true hle] at hc
      rw [hc, if_pos rfl, hs]
      have hm1 : (true.toNat + 2 * num (divF b as).1) * num b = num b + 2 * (num (divF b as).1 * num b) := by simp [Nat.add_mul, Nat.mul_assoc]
      have hx : x.toNat ≤ 1 := by cases x <;> simp
      rw [hm1]
      omega
    · rw [decide_eq_false hle] at hc
      rw [hc, if_neg (by simp), hR]
      have hm1 : (false.toNat + 2 * num (divF b as).1) * num b = 2 * (num (divF b as).1 * num b) := by simp [Nat.mul_assoc]
      rw [hm1]
      omega
theorem divF_qr {b : List Bool} (hb : 0 < num b) (as : List Bool) : num (divF b as).1 = num as / num b ∧ num (divF b as).2 = num as % num b := by
  obtain ⟨h1, h2⟩ := divF_num hb as
  constructor
  · rw [h1, Nat.mul_comm, Nat.mul_add_div hb, Nat.div_eq_of_lt h2, Nat.add_zero]
  · rw [h1, Nat.mul_comm, Nat.mul_add_mod, Nat.mod_eq_of_lt h2]
end Go.Z.Bit
