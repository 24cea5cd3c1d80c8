/- Own texts, put together: J0 J1 J2 J3 J4 J5 J6 J7 J8. Conditions: as told at each. -/
import Derived.Test.YtkebblmmgcgjkaaC0
import Derived.Test.YtkebblmmgcgjkaaMBmB0
import Derived.Test.YtkebblmmgcgjkaaZj
/- Chapter 38, plain: binary numbers, and what the circuits compute on bits. No program in sight. Conditions: none. -/
namespace Go.Z.Bit
set_option maxRecDepth 8000
set_option linter.unusedVariables false
set_option linter.unusedSimpArgs false
set_option linter.unusedSectionVars false
open Go Go.Z Go.Z.Val

def num : List Bool → Nat
  | [] => 0
  | b :: l => b.toNat + 2 * num l
def bitsR : Nat → Int → List Bool
  | 0, _ => []
  | w + 1, n => decide (n % 2 = 1) :: bitsR w (n / 2)
theorem bitsR_len : ∀ (w : Nat) (n : Int), (bitsR w n).length = w
  | 0, _ => rfl
  | w + 1, n => by rw [bitsR, List.length_cons, bitsR_len w]
theorem num_lt : ∀ l : List Bool, num l < 2 ^ l.length
  | [] => by decide
  | b :: l => by
    have := num_lt l
    rw [num, List.length_cons, Nat.pow_succ]
    cases b <;> simp <;> omega
theorem num_append : ∀ l r : List Bool, num (l ++ r) = num l + 2 ^ l.length * num r
  | [], r => by simp [num]
  | b :: l, r => by
    rw [List.cons_append, num, num, num_append l r, List.length_cons, Nat.pow_succ, Nat.mul_add, Nat.mul_comm (2 ^ l.length) 2, Nat.mul_assoc]; omega
theorem num_rep : ∀ n : Nat, num (List.replicate n false) = 0
  | 0 => rfl
  | n + 1 => by rw [List.replicate_succ, num, num_rep n]; rfl
theorem num_not : ∀ l : List Bool, num (l.map (!·)) + num l + 1 = 2 ^ l.length
  | [] => rfl
  | b :: l => by
    have := num_not l
    rw [List.map_cons, num, num, List.length_cons, Nat.pow_succ]
    cases b <;> simp <;> omega
theorem num_inj : ∀ l r : List Bool, l.length = r.length → num l = num r → l = r
  | [], [], _, _ => rfl
  | [], _ :: _, h, _ => by cases h
  | _ :: _, [], h, _ => by cases h
  | a :: l, b :: r, h, e => by
    rw [num, num] at e
    have h1 : a = b := by
      have ha : a.toNat ≤ 1 := by cases a <;> decide
      have hb : b.toNat ≤ 1 := by cases b <;> decide
      have hab : a.toNat = b.toNat := by omega
      cases a <;> cases b <;> first | rfl | cases hab
    subst h1
    have hl : l.length = r.length := Nat.succ.inj h
    have hn : num l = num r := by omega
    rw [num_inj l r hl hn]
theorem num_bits : ∀ (w : Nat) (n : Int), (num (bitsR w n) : Int) = n % (2 ^ w : Nat)
  | 0, n => by rw [bitsR, num]; simp
  | w + 1, n => by
    rw [bitsR, num]
    have h := num_bits w (n / 2)
    have hp : (2 ^ (w + 1) : Nat) = 2 * 2 ^ w := by rw [Nat.pow_succ, Nat.mul_comm]
    have hP : (0 : Int) < ((2 ^ w : Nat) : Int) := by have := Nat.one_le_two_pow (n := w); omega
    have h2 : n % ((2 * 2 ^ w : Nat) : Int) = n % 2 + 2 * (n / 2 % ((2 ^ w : Nat) : Int)) := by
      rw [Int.natCast_mul]
      generalize ((2 ^ w : Nat) : Int) = P at hP
      have e1 := Int.emod_add_mul_ediv (n / 2) P
      have e2 := Int.emod_nonneg (n / 2) (Int.ne_of_gt hP)
      have e3 := Int.emod_lt_of_pos (n / 2) hP
      have e4 : n = (n % 2 + 2 * (n / 2 % P)) + (2 * P) * (n / 2 / P) := by rw [Int.mul_assoc]; omega
      have e5 : n % (2 * P) = (n % 2 + 2 * (n / 2 % P)) % (2 * P) := by
        conv => lhs; rw [e4]
        exact Int.add_mul_emod_self_left _ _ _
      rw [show (((2 : Nat) : Int)) = 2 from rfl, e5, Int.emod_eq_of_lt (by omega) (by omega)]
    rw [hp, h2, ← h]
    rcases Int.emod_two_eq n with e | e <;> rw [e] <;> simp
/-- the only list with a number -/
theorem bits_of {l : List Bool} {w : Nat} (hl : l.length = w) {n : Int} (h : (num l : Int) = n % (2 ^ w : Nat)) : l = bitsR w n :=
  num_inj _ _ (by rw [hl, bitsR_len]) (by have := num_bits w n; omega)
theorem num_take (l : List Bool) (k : Nat) (hk : k ≤ l.length) : num (l.take k) = num l % 2 ^ k := by
  have h := num_append (l.take k) (l.drop k)
  rw [List.take_append_drop, List.length_take, Nat.min_eq_left hk] at h
  have h2 := num_lt (l.take k)
  rw [List.length_take, Nat.min_eq_left hk] at h2
  rw [h, Nat.add_mul_mod_self_left, Nat.mod_eq_of_lt h2]
theorem num_zero : ∀ l : List Bool, num l = 0 ↔ ∀ b ∈ l, b = false
  | [] => by simp [num]
  | b :: l => by
    have h := num_zero l
    rw [num]
    constructor
    · intro e c hc
      have hb : b.toNat ≤ 1 := by cases b <;> decide
      rcases List.mem_cons.1 hc with rfl | hc
      · cases c
        · rfl
        · simp at e
      · exact h.1 (by omega) c hc
    · intro e
      rw [e b (by simp), h.2 fun c hc => e c (by simp [hc])]; rfl

/-! ### sums -/
def addF : List Bool → List Bool → Bool → List Bool × Bool
  | a :: xs, b :: bs, c => (((a != b) != c) :: (addF xs bs (if a != b then c else a)).1, (addF xs bs (if a != b then c else a)).2)
  | _, _, c => ([], c)
theorem addF_num : ∀ (xs bs : List Bool) (c : Bool), xs.length = bs.length → (addF xs bs c).1.length = xs.length ∧ num (addF xs bs c).1 + 2 ^ xs.length * (addF xs bs c).2.toNat = num xs + num bs + c.toNat
  | [], [], c, _ => by simp [addF, num]
  | [], _ :: _, _, h => by cases h
  | _ :: _, [], _, h => by cases h
  | a :: xs, b :: bs, c, h => by
    obtain ⟨h1, h2⟩ := addF_num xs bs (if a != b then c else a) (by simpa using h)
    rw [addF]
    refine ⟨by rw [List.length_cons, List.length_cons, h1], ?_⟩
    dsimp only
    rw [num, num, num, List.length_cons, Nat.pow_succ, Nat.mul_comm (2 ^ xs.length) 2, Nat.mul_assoc]
    cases a <;> cases b <;> cases c <;> simp at h2 ⊢ <;> omega
theorem addF_snoc : ∀ (xs bs : List Bool) (c x y : Bool), xs.length = bs.length → addF (xs ++ [x]) (bs ++ [y]) c = ((addF xs bs c).1 ++ [(x != y) != (addF xs bs c).2], if x != y then (addF xs bs c).2 else x)
  | [], [], c, x, y, _ => by simp [addF]
  | [], _ :: _, _, _, _, h => by cases h
  | _ :: _, [], _, _, _, h => by cases h
  | a :: xs, b :: bs, c, x, y, h => by
    rw [List.cons_append, List.cons_append, addF, addF_snoc xs bs _ x y (by simpa using h), addF]
    simp
theorem addF_len {xs bs : List Bool} (c : Bool) (h : xs.length = bs.length) : (addF xs bs c).1.length = xs.length := (addF_num xs bs c h).1
theorem addF_mod {xs bs : List Bool} (c : Bool) (h : xs.length = bs.length) : num (addF xs bs c).1 = (num xs + num bs + c.toNat) % 2 ^ xs.length := by
  obtain ⟨h1, h2⟩ := addF_num xs bs c h
  have h3 := num_lt (addF xs bs c).1
  rw [h1] at h3
  rw [← h2, Nat.add_mul_mod_self_left, Nat.mod_eq_of_lt h3]
theorem addF_carry {xs bs : List Bool} (h : xs.length = bs.length) : (addF xs (bs.map (!·)) true).2 = decide (num bs ≤ num xs) := by
  obtain ⟨h1, h2⟩ := addF_num xs (bs.map (!·)) true (by simpa using h)
  have h3 := num_lt (addF xs (bs.map (!·)) true).1
  have h4 := num_not bs
  rw [h1] at h3
  rw [← h] at h4
  have h5 := num_lt xs
  cases hc : (addF xs (bs.map (!·)) true).2 with
  | true => rw [hc] at h2; simp at h2; symm; rw [decide_eq_true_iff]; omega
  | false => rw [hc] at h2; simp at h2; symm; rw [decide_eq_false_iff_not]; omega
theorem addF_sub {xs bs : List Bool} (h : xs.length = bs.length) (hle : num bs ≤ num xs) : num (addF xs (bs.map (!·)) true).1 = num xs - num bs := by
  have h1 := addF_mod (xs := xs) (bs := bs.map (!·)) true (by simpa using h)
  have h4 := num_not bs
  rw [← h] at h4
  have h5 := num_lt xs
  rw [h1, show num xs + num (bs.map (!·)) + true.toNat = (num xs - num bs) + 2 ^ xs.length by simp; omega, Nat.add_mod_right, Nat.mod_eq_of_lt (by omega)]

def negF (c : Bool) (xs : List Bool) : List Bool := (addF (xs.map (c != ·)) (List.replicate xs.length false) c).1
theorem negF_len (c : Bool) (xs : List Bool) : (negF c xs).length = xs.length := by unfold negF; rw [addF_len _ (by simp)]; simp
theorem negF_num (c : Bool) (xs : List Bool) : num (negF c xs) = if c then (2 ^ xs.length - num xs) % 2 ^ xs.length else num xs := by
  unfold negF
  rw [addF_mod _ (by simp), num_rep]
  cases c with
  | true =>
    have h : xs.map (true != ·) = xs.map (!·) := by apply List.map_congr_left; intro a _; cases a <;> rfl
    have h4 := num_not xs
    rw [h, if_pos rfl, List.length_map, show num (xs.map (!·)) + 0 + true.toNat = 2 ^ xs.length - num xs by simp; omega]
  | false =>
    have h : xs.map (false != ·) = xs := by rw [show (fun x => false != x) = (id : Bool → Bool) by funext x; cases x <;> rfl, List.map_id]
    rw [h]; simp
    exact Nat.mod_eq_of_lt (num_lt xs)

/-! ### products -/
def rowF (x : Bool) (b : List Bool) (i n : Nat) : List Bool := List.replicate i false ++ (b.take (n - i)).map (x && ·)
def mulF (a b : List Bool) (n : Nat) : Nat → List Bool
  | 0 => List.replicate n false
  | k + 1 => (addF (mulF a b n k) (rowF (a.getD k false) b k n) false).1
theorem num_andmap (x : Bool) : ∀ l : List Bool, num (l.map (x && ·)) = x.toNat * num l
  | [] => by simp [num]
  | b :: l => by rw [List.map_cons, num, num, num_andmap x l]; cases x <;> cases b <;> simp
theorem rowF_len (x : Bool) {b : List Bool} {i n : Nat} (hb : b.length = n) (hi : i ≤ n) : (rowF x b i n).length = n := by
  unfold rowF; simp; omega
theorem rowF_num (x : Bool) {b : List Bool} {i n : Nat} (hb : b.length = n) (hi : i ≤ n) : num (rowF x b i n) = (x.toNat * 2 ^ i * num b) % 2 ^ n := by
  unfold rowF
  rw [num_append, num_rep, num_andmap, num_take _ _ (by omega), List.length_replicate, Nat.zero_add]
  cases x with
  | false => simp
  | true =>
    simp only [Bool.toNat_true, Nat.one_mul]
    obtain ⟨d, rfl⟩ : ∃ d, n = i + d := ⟨n - i, by omega⟩
    rw [show i + d - i = d by omega, Nat.pow_add, Nat.mul_mod_mul_left]
theorem mulF_len (a : List Bool) {b : List Bool} {n : Nat} (hb : b.length = n) : ∀ k, k ≤ n → (mulF a b n k).length = n
  | 0, _ => by simp [mulF]
  | k + 1, h => by
    have h1 := mulF_len a hb k (by omega)
    rw [mulF, addF_len _ (by rw [h1, rowF_len _ hb (by omega)]), h1]
theorem num_take_succ {a : List Bool} {k : Nat} (hk : k < a.length) : num (a.take (k + 1)) = num (a.take k) + 2 ^ k * (a.getD k false).toNat := by
  rw [List.take_add_one, num_append, List.length_take, Nat.min_eq_left (by omega), List.getElem?_eq_getElem hk, List.getD_eq_getElem?_getD, List.getElem?_eq_getElem hk]
  simp [num]
theorem mulF_num {a b : List Bool} {n : Nat} (ha : a.length = n) (hb : b.length = n) : ∀ k, k ≤ n → num (mulF a b n k) = (num (a.take k) * num b) % 2 ^ n
  | 0, _ => by simp [mulF, num_rep, num]
  | k + 1, h => by
    have h1 := mulF_num ha hb k (by omega)
    have h2 := mulF_len a hb k (by omega)
    rw [mulF, addF_mod _ (by rw [h2, rowF_len _ hb (by omega)]), h1, rowF_num _ hb (by omega), h2, num_take_succ (by omega)]
    simp only [Bool.toNat_false, Nat.add_zero]
    rw [← Nat.add_mod, Nat.add_mul, Nat.mul_comm (2 ^ k) (a.getD k false).toNat]

/-! ### quotients -/
def divF (b : List Bool) : List Bool → List Bool × List Bool
  | [] => ([], List.replicate (b.length + 1) false)
  | x :: xs =>
    let r := x :: (divF b xs).2.take b.length
    let d := addF r ((b ++ [false]).map (!·)) true
    (d.2 :: (divF b xs).1, if d.2 then d.1 else r)
theorem divF_len (b : List Bool) : ∀ xs, (divF b xs).1.length = xs.length ∧ (divF b xs).2.length = b.length + 1
  | [] => by simp [divF]
  | x :: xs => by
    obtain ⟨h1, h2⟩ := divF_len b xs
    have hr : (x :: (divF b xs).2.take b.length).length = ((b ++ [false]).map (!·)).length := by simp [h2]
    rw [divF]
    refine ⟨by simp [h1], ?_⟩
    dsimp only
    split
    · rw [addF_len _ hr]; simp [h2]
    · simp [h2]
theorem divF_num {b : List Bool} (hb : 0 < num b) : ∀ xs, num xs = num (divF b xs).1 * num b + num (divF b xs).2 ∧ num (divF b xs).2 < num b
  | [] => by simp [divF, num, num_rep, hb]
  | x :: xs => by
    obtain ⟨h1, h2⟩ := divF_num hb xs
    obtain ⟨_, h3⟩ := divF_len b xs
    have h4 := num_lt b
    have hr : (x :: (divF b xs).2.take b.length).length = (b ++ [false]).length := by simp [h3]
    have hw : num (b ++ [false]) = num b := by rw [num_append]; simp [num]
    have ht : num ((divF b xs).2.take b.length) = num (divF b xs).2 := by rw [num_take _ _ (by omega)]; exact Nat.mod_eq_of_lt (by omega)
    have hR : num (x :: (divF b xs).2.take b.length) = x.toNat + 2 * num (divF b xs).2 := by rw [num, ht]
    have hc := addF_carry hr
    rw [hw, hR] at hc
    rw [divF]
    dsimp only
    rw [num, num]
    have hm : (2 * num (divF b xs).1 + 0) * num b = 2 * (num (divF b xs).1 * num b) := by rw [Nat.add_zero, Nat.mul_assoc]
    by_cases hle : num b ≤ x.toNat + 2 * num (divF b xs).2
    · have hs := addF_sub hr (by rw [hw, hR]; exact hle)
      rw [hw, hR] at hs
      rw [decide_eq_true hle] at hc
      rw [hc, if_pos rfl, hs]
      have hm1 : (true.toNat + 2 * num (divF b xs).1) * num b = num b + 2 * (num (divF b xs).1 * num b) := by simp [Nat.add_mul, Nat.mul_assoc]
      have hx : x.toNat ≤ 1 := by cases x <;> simp
      rw [hm1]
      omega
    · rw [decide_eq_false hle] at hc
      rw [hc, if_neg (by simp), hR]
      have hm1 : (false.toNat + 2 * num (divF b xs).1) * num b = 2 * (num (divF b xs).1 * num b) := by simp [Nat.mul_assoc]
      rw [hm1]
      omega
theorem divF_qr {b : List Bool} (hb : 0 < num b) (xs : List Bool) : num (divF b xs).1 = num xs / num b ∧ num (divF b xs).2 = num xs % num b := by
  obtain ⟨h1, h2⟩ := divF_num hb xs
  constructor
  · rw [h1, Nat.mul_comm, Nat.mul_add_div hb, Nat.div_eq_of_lt h2, Nat.add_zero]
  · rw [h1, Nat.mul_comm, Nat.mul_add_mod, Nat.mod_eq_of_lt h2]
end Go.Z.Bit
/- Chapter 38, plain: the operators on bits yield the operators on values. No program in sight. Conditions: none. -/
namespace Go.Z.Bit
set_option maxRecDepth 8000
set_option linter.unusedVariables false
set_option linter.unusedSimpArgs false
set_option linter.unusedSectionVars false
open Go Go.Z Go.Z.Val

/-- the number of bits: a signed one for 16 bits -/
def sg (l : List Bool) : Int := if l.length = 16 ∧ 32768 ≤ num l then (num l : Int) - 65536 else num l
def belowF (a b : List Bool) : Bool := !(addF a (b.map (!·)) true).2
def flipF (l : List Bool) (n : Nat) : List Bool := l.set n (!(l.getD n false))
def lessF (a b : List Bool) : Bool := belowF (flipF a (a.length - 1)) (flipF b (a.length - 1))
def allF (l : List Bool) : Bool := l.foldl (fun x y => x && y) true
def zeroF (a : List Bool) : Bool := allF (a.map (!·))
def equalF (a b : List Bool) : Bool := allF (List.zipWith (fun x y => !(x != y)) a b)
def muxF (c : Bool) (a b : List Bool) : List Bool := List.zipWith (fun x y => if c then x else y) a b
def divisionF (a b : List Bool) : List Bool × List Bool :=
  let n := a.length - 1
  let d := divF (negF (b.getD n false) b) (negF (a.getD n false) a)
  (muxF (zeroF b) (List.replicate (n + 1) false) (negF (a.getD n false != b.getD n false) d.1), muxF (zeroF b) a (negF (a.getD n false) (d.2.take a.length)))
def compareF (op : Int) (a b : List Bool) : Bool :=
  if op = 11 then equalF a b else if op = 12 then !equalF a b else if op = 13 then lessF a b else if op = 14 then !lessF b a else if op = 15 then lessF b a else !lessF a b
def operateF (op : Int) (a b : List Bool) : List Bool :=
  if op = 1 then a.map (!·) else if op = 2 then negF true a else if op = 3 then [a.getD 0 false && b.getD 0 false] else if op = 4 then [a.getD 0 false || b.getD 0 false]
  else if op = 5 then [a.getD 0 false != b.getD 0 false] else if op = 6 then (addF a b false).1 else if op = 7 then (addF a (b.map (!·)) true).1 else if op = 8 then mulF a b a.length a.length
  else if op = 9 then (divisionF a b).1 else if op = 10 then (divisionF a b).2 else [compareF op a b]

theorem belowF_iff {a b : List Bool} (h : a.length = b.length) : belowF a b = decide (num a < num b) := by
  unfold belowF
  rw [addF_carry h, ← decide_not]
  exact decide_eq_decide.2 (by omega)
theorem allF_iff (l : List Bool) : allF l = true ↔ ∀ b ∈ l, b = true := by
  have key : ∀ (l : List Bool) (x : Bool), l.foldl (fun x y => x && y) x = true ↔ x = true ∧ ∀ b ∈ l, b = true := by
    intro l
    induction l with
    | nil => intro x; simp
    | cons b l ih => intro x; rw [List.foldl_cons, ih, Bool.and_eq_true, and_assoc, List.forall_mem_cons]
  unfold allF; rw [key]; simp
theorem allF_snoc (l : List Bool) (x : Bool) : allF (l ++ [x]) = (allF l && x) := by unfold allF; rw [List.foldl_append]; rfl
theorem zeroF_iff (a : List Bool) : zeroF a = decide (num a = 0) := by
  unfold zeroF
  rw [Bool.eq_iff_iff, allF_iff, decide_eq_true_iff, num_zero]
  simp
theorem equalF_iff : ∀ {a b : List Bool}, a.length = b.length → equalF a b = decide (a = b) := by
  intro a b h
  unfold equalF
  rw [Bool.eq_iff_iff, allF_iff, decide_eq_true_iff]
  induction a generalizing b with
  | nil => cases b with
    | nil => simp
    | cons => cases h
  | cons x a ih =>
    cases b with
    | nil => cases h
    | cons y b =>
      rw [List.zipWith_cons_cons, List.forall_mem_cons, ih (Nat.succ.inj h), List.cons.injEq]
      cases x <;> cases y <;> simp
theorem muxF_eq (c : Bool) : ∀ {a b : List Bool}, a.length = b.length → muxF c a b = if c then a else b
  | [], [], _ => by simp [muxF]
  | [], _ :: _, h => by cases h
  | _ :: _, [], h => by cases h
  | x :: a, y :: b, h => by
    have := muxF_eq c (Nat.succ.inj h : a.length = b.length)
    unfold muxF at this ⊢
    rw [List.zipWith_cons_cons, this]
    cases c <;> rfl
theorem top_split {l : List Bool} (h : l.length = 16) : ∃ t x, l = t ++ [x] ∧ t.length = 15 ∧ l.getD 15 false = x ∧ num l = num t + 32768 * x.toNat ∧ num t < 32768 := by
  have hne : l ≠ [] := by intro e; rw [e] at h; cases h
  refine ⟨l.dropLast, l.getLast hne, (List.dropLast_concat_getLast hne).symm, by rw [List.length_dropLast, h], ?_, ?_, ?_⟩
  · rw [List.getD_eq_getElem?_getD, List.getElem?_eq_getElem (by omega), List.getLast_eq_getElem]
    simp [h]
  · conv => lhs; rw [← List.dropLast_concat_getLast hne, num_append, List.length_dropLast, h]
    simp [num]
  · have := num_lt l.dropLast
    rw [List.length_dropLast, h] at this
    exact this
theorem sg16 {l : List Bool} (h : l.length = 16) : sg l = (if l.getD 15 false then (num l : Int) - 65536 else num l) ∧ -32768 ≤ sg l ∧ sg l ≤ 32767 ∧ (num l : Int) = sg l % 65536 ∧ (l.getD 15 false = decide (sg l < 0)) := by
  obtain ⟨t, x, h1, h2, h3, h4, h5⟩ := top_split h
  unfold sg
  rw [h3]
  cases x
  · simp at h4
    rw [if_neg (by omega), if_neg (by simp)]
    refine ⟨rfl, by omega, by omega, by omega, ?_⟩
    symm; rw [decide_eq_false_iff_not]; omega
  · simp at h4
    rw [if_pos (by omega), if_pos rfl]
    refine ⟨rfl, by omega, by omega, by omega, ?_⟩
    symm; rw [decide_eq_true_iff]; omega
theorem flipF_num {l : List Bool} (h : l.length = 16) : (num (flipF l 15) : Int) = sg l + 32768 ∧ (flipF l 15).length = 16 := by
  obtain ⟨t, x, h1, h2, h3, h4, h5⟩ := top_split h
  have hs := (sg16 h).1
  rw [h3] at hs
  have he : flipF l 15 = t ++ [!x] := by
    unfold flipF
    rw [h3, h1, List.set_append_right _ _ (by omega), h2]
    rfl
  rw [he, num_append, h2, hs, h4]
  refine ⟨?_, by simp [h2]⟩
  cases x <;> simp [num] <;> omega
theorem lessF_iff {a b : List Bool} (ha : a.length = 16) (hb : b.length = 16) : lessF a b = decide (sg a < sg b) := by
  obtain ⟨h1, h2⟩ := flipF_num ha
  obtain ⟨h3, h4⟩ := flipF_num hb
  unfold lessF
  rw [ha]
  show belowF (flipF a 15) (flipF b 15) = _
  rw [belowF_iff (by rw [h2, h4])]
  exact decide_eq_decide.2 (by omega)
theorem negF_abs {l : List Bool} (h : l.length = 16) : num (negF (l.getD 15 false) l) = (sg l).natAbs := by
  obtain ⟨h1, h2, h3, h4, h5⟩ := sg16 h
  rw [negF_num, h]
  have := num_lt l
  rw [h] at this
  cases hx : l.getD 15 false with
  | true => rw [hx, if_pos rfl] at h1; rw [if_pos rfl]; omega
  | false => rw [hx, if_neg (by simp)] at h1; rw [if_neg (by simp)]; omega
theorem tdiv_abs (a b : Int) : a.tdiv b = if (decide (a < 0) != decide (b < 0)) then -((a.natAbs / b.natAbs : Nat) : Int) else ((a.natAbs / b.natAbs : Nat) : Int) := by
  rcases Int.natAbs_eq a with ha | ha <;> rcases Int.natAbs_eq b with hb | hb <;> (generalize a.natAbs = x at ha; generalize b.natAbs = y at hb; subst ha; subst hb)
  · rw [← Int.ofNat_tdiv, if_neg (by rw [decide_eq_false (by omega), decide_eq_false (by omega)]; simp)]
  · rw [Int.tdiv_neg, ← Int.ofNat_tdiv]
    by_cases hy : y = 0
    · subst hy; simp
    · rw [if_pos]; rw [decide_eq_false (by omega), decide_eq_true (by omega)]; rfl
  · rw [Int.neg_tdiv, ← Int.ofNat_tdiv]
    by_cases hx : x = 0
    · subst hx; simp
    · rw [if_pos]; rw [decide_eq_true (by omega), decide_eq_false (by omega)]; rfl
  · rw [Int.neg_tdiv, Int.tdiv_neg, Int.neg_neg, ← Int.ofNat_tdiv]
    by_cases hx : x = 0
    · subst hx; simp
    · by_cases hy : y = 0
      · subst hy; simp
      · rw [if_neg]; rw [decide_eq_true (by omega), decide_eq_true (by omega)]; simp
theorem tmod_abs (a b : Int) : a.tmod b = if decide (a < 0) then -((a.natAbs % b.natAbs : Nat) : Int) else ((a.natAbs % b.natAbs : Nat) : Int) := by
  rcases Int.natAbs_eq a with ha | ha <;> rcases Int.natAbs_eq b with hb | hb <;> (generalize a.natAbs = x at ha; generalize b.natAbs = y at hb; subst ha; subst hb)
  · rw [← Int.ofNat_tmod]; rw [if_neg]; simp
  · rw [Int.tmod_neg, ← Int.ofNat_tmod, if_neg]; simp
  · rw [Int.neg_tmod, ← Int.ofNat_tmod]
    by_cases hx : x = 0
    · subst hx; simp
    · rw [if_pos]; simp; omega
  · rw [Int.neg_tmod, Int.tmod_neg, ← Int.ofNat_tmod]
    by_cases hx : x = 0
    · subst hx; simp
    · rw [if_pos]; simp; omega
theorem sg_zero {l : List Bool} : num l = 0 ↔ sg l = 0 := by
  have := num_lt l
  unfold sg
  split
  · rename_i h; rw [h.1] at this; omega
  · omega
theorem division_q {a b : List Bool} (ha : a.length = 16) (hb : b.length = 16) : (divisionF a b).1 = bitsR 16 (if sg b = 0 then 0 else wr ((sg a).tdiv (sg b))) := by
  have hl := divF_len (negF (b.getD 15 false) b) (negF (a.getD 15 false) a)
  rw [negF_len, negF_len, ha, hb] at hl
  unfold divisionF
  simp only [ha]
  rw [muxF_eq _ (by rw [negF_len, hl.1]; simp), zeroF_iff]
  by_cases h0 : num b = 0
  · rw [decide_eq_true h0, if_pos rfl, if_pos (sg_zero.1 h0)]
    rfl
  · have hs : sg b ≠ 0 := fun e => h0 (sg_zero.2 e)
    rw [decide_eq_false h0, if_neg (by simp), if_neg hs]
    have hpos : 0 < num (negF (b.getD 15 false) b) := by rw [negF_abs hb]; omega
    have hq := (divF_qr hpos (negF (a.getD 15 false) a)).1
    rw [negF_abs ha, negF_abs hb] at hq
    refine bits_of (by rw [negF_len, hl.1]) ?_
    rw [negF_num, hl.1, hq, tdiv_abs, (sg16 ha).2.2.2.2, (sg16 hb).2.2.2.2]
    have hle := Nat.div_le_self (sg a).natAbs (sg b).natAbs
    have h1 := (sg16 ha).2.1
    have h2 := (sg16 ha).2.2.1
    unfold wr
    split <;> omega
theorem division_r {a b : List Bool} (ha : a.length = 16) (hb : b.length = 16) : (divisionF a b).2 = bitsR 16 (if sg b = 0 then sg a else (sg a).tmod (sg b)) := by
  have hl := divF_len (negF (b.getD 15 false) b) (negF (a.getD 15 false) a)
  rw [negF_len, negF_len, ha, hb] at hl
  have ht : ((divF (negF (b.getD 15 false) b) (negF (a.getD 15 false) a)).2.take 16).length = 16 := by rw [List.length_take, hl.2]; rfl
  unfold divisionF
  simp only [ha]
  rw [muxF_eq _ (by rw [negF_len, ht, ha]), zeroF_iff]
  obtain ⟨h5, h1, h2, h6, h7⟩ := sg16 ha
  by_cases h0 : num b = 0
  · rw [decide_eq_true h0, if_pos rfl, if_pos (sg_zero.1 h0)]
    exact bits_of ha h6
  · have hs : sg b ≠ 0 := fun e => h0 (sg_zero.2 e)
    rw [decide_eq_false h0, if_neg (by simp), if_neg hs]
    have hpos : 0 < num (negF (b.getD 15 false) b) := by rw [negF_abs hb]; omega
    have hq := (divF_qr hpos (negF (a.getD 15 false) a)).2
    rw [negF_abs ha, negF_abs hb] at hq
    have hlt := Nat.mod_lt (sg a).natAbs (show 0 < (sg b).natAbs by omega)
    have hle := Nat.mod_le (sg a).natAbs (sg b).natAbs
    refine bits_of (by rw [negF_len, ht]) ?_
    rw [negF_num, ht, num_take _ _ (by rw [hl.2]; decide), hq, tmod_abs, h7]
    split <;> omega

theorem truth_bits (x : Bool) : [x] = bitsR 1 (truth x) := by cases x <;> rfl
theorem one_bit {l : List Bool} (h : l.length = 1) : ∃ x, l = [x] := by
  match l, h with
  | [x], _ => exact ⟨x, rfl⟩
theorem sg_one (x : Bool) : sg [x] = truth x := by cases x <;> rfl
theorem sg_inj {a b : List Bool} (h : a.length = b.length) : sg a = sg b ↔ a = b := by
  constructor
  · intro e
    refine num_inj _ _ h ?_
    have h1 := num_lt a
    have h2 := num_lt b
    unfold sg at e
    by_cases h16 : a.length = 16
    · have h16' : b.length = 16 := by omega
      rw [h16] at h1
      rw [h16'] at h2
      split at e <;> split at e <;> omega
    · rw [if_neg (by omega), if_neg (by omega)] at e
      omega
  · intro e; rw [e]

/-- the number of bits of operands -/
def widthF (op : Int) (n : Nat) : Nat := if op = 1 ∨ op = 3 ∨ op = 4 ∨ op = 5 then 1 else if op = 11 ∨ op = 12 then min (max n 1) 16 else 16
def outF (op : Int) : Nat := if op = 2 ∨ (6 ≤ op ∧ op ≤ 10) then 16 else 1
theorem operate_law {op : Int} (hop : 1 ≤ op ∧ op ≤ 16) {a b : List Bool} (ha : a.length = widthF op a.length) (hb : b.length = a.length) (hu : op ≤ 2 → b = a) : operateF op a b = bitsR (outF op) (opF op (sg a) (sg b)) := by
  have hop' : op = 1 ∨ op = 2 ∨ op = 3 ∨ op = 4 ∨ op = 5 ∨ op = 6 ∨ op = 7 ∨ op = 8 ∨ op = 9 ∨ op = 10 ∨ op = 11 ∨ op = 12 ∨ op = 13 ∨ op = 14 ∨ op = 15 ∨ op = 16 := by omega
  rcases hop' with rfl | rfl | rfl | rfl | rfl | rfl | rfl | rfl | rfl | rfl | rfl | rfl | rfl | rfl | rfl | rfl
  · obtain ⟨x, rfl⟩ := one_bit ha
    cases x <;> rfl
  · have ha' : a.length = 16 := ha
    obtain ⟨h1, h2, h3, h4, h5⟩ := sg16 ha'
    refine bits_of (w := 16) (by show (negF true a).length = 16; rw [negF_len, ha']) ?_
    show (num (negF true a) : Int) = wr (-(wr (sg a))) % _
    rw [negF_num, if_pos rfl, ha', wr_id ⟨h2, h3⟩]
    unfold wr
    omega
  · obtain ⟨x, rfl⟩ := one_bit ha
    obtain ⟨y, rfl⟩ := one_bit hb
    cases x <;> cases y <;> rfl
  · obtain ⟨x, rfl⟩ := one_bit ha
    obtain ⟨y, rfl⟩ := one_bit hb
    cases x <;> cases y <;> rfl
  · obtain ⟨x, rfl⟩ := one_bit ha
    obtain ⟨y, rfl⟩ := one_bit hb
    cases x <;> cases y <;> rfl
  · have ha' : a.length = 16 := ha
    obtain ⟨h1, h2, h3, h4, h5⟩ := sg16 ha'
    obtain ⟨k1, k2, k3, k4, k5⟩ := sg16 (l := b) (by omega)
    refine bits_of (w := 16) (by show (addF a b false).1.length = 16; rw [addF_len _ (by omega), ha']) ?_
    show (num (addF a b false).1 : Int) = wr (wr (sg a) + wr (sg b)) % _
    rw [addF_mod _ (by omega), ha', wr_id ⟨h2, h3⟩, wr_id ⟨k2, k3⟩]
    simp only [Bool.toNat_false]
    unfold wr
    omega
  · have ha' : a.length = 16 := ha
    obtain ⟨h1, h2, h3, h4, h5⟩ := sg16 ha'
    obtain ⟨k1, k2, k3, k4, k5⟩ := sg16 (l := b) (by omega)
    have hn := num_not b
    rw [show b.length = 16 by omega] at hn
    refine bits_of (w := 16) (by show (addF a (b.map (!·)) true).1.length = 16; rw [addF_len _ (by simp; omega), ha']) ?_
    show (num (addF a (b.map (!·)) true).1 : Int) = wr (wr (sg a) - wr (sg b)) % _
    rw [addF_mod _ (by simp; omega), ha', wr_id ⟨h2, h3⟩, wr_id ⟨k2, k3⟩]
    simp only [Bool.toNat_true]
    unfold wr
    omega
  · have ha' : a.length = 16 := ha
    obtain ⟨h1, h2, h3, h4, h5⟩ := sg16 ha'
    obtain ⟨k1, k2, k3, k4, k5⟩ := sg16 (l := b) (by omega)
    refine bits_of (w := 16) (by show (mulF a b a.length a.length).length = 16; rw [mulF_len _ (by omega) _ (by omega), ha']) ?_
    show (num (mulF a b a.length a.length) : Int) = wr (wr (sg a) * wr (sg b)) % _
    rw [mulF_num rfl (by omega) _ (by omega), wr_id ⟨h2, h3⟩, wr_id ⟨k2, k3⟩, List.take_of_length_le (Nat.le_refl _), ha']
    have e1 : (sg a * sg b) % 65536 = ((num a : Int) * num b) % 65536 := by rw [Int.mul_emod, ← h4, ← k4]
    have e2 : (((num a * num b : Nat) : Int)) % 65536 = ((num a : Int) * num b) % 65536 := by rw [Int.natCast_mul]
    generalize sg a * sg b = X at *
    generalize num a * num b = Y at *
    unfold wr
    omega
  · have ha' : a.length = 16 := ha
    obtain ⟨h1, h2, h3, h4, h5⟩ := sg16 ha'
    obtain ⟨k1, k2, k3, k4, k5⟩ := sg16 (l := b) (by omega)
    show (divisionF a b).1 = bitsR 16 (if wr (sg b) = 0 then 0 else wr ((wr (sg a)).tdiv (wr (sg b))))
    rw [wr_id ⟨h2, h3⟩, wr_id ⟨k2, k3⟩]
    exact division_q ha' (by omega)
  · have ha' : a.length = 16 := ha
    obtain ⟨h1, h2, h3, h4, h5⟩ := sg16 ha'
    obtain ⟨k1, k2, k3, k4, k5⟩ := sg16 (l := b) (by omega)
    show (divisionF a b).2 = bitsR 16 (if wr (sg b) = 0 then wr (sg a) else (wr (sg a)).tmod (wr (sg b)))
    rw [wr_id ⟨h2, h3⟩, wr_id ⟨k2, k3⟩]
    exact division_r ha' (by omega)
  · show [equalF a b] = bitsR 1 (truth (decide (sg a = sg b)))
    rw [equalF_iff hb.symm, truth_bits]
    congr 2
    exact decide_eq_decide.2 (sg_inj hb.symm).symm
  · show [!equalF a b] = bitsR 1 (truth (!decide (sg a = sg b)))
    rw [equalF_iff hb.symm, truth_bits]
    congr 3
    exact decide_eq_decide.2 (sg_inj hb.symm).symm
  · show [lessF a b] = bitsR 1 (truth (decide (sg a < sg b)))
    rw [lessF_iff ha (by rw [hb]; exact ha), truth_bits]
  · show [!lessF b a] = bitsR 1 (truth (decide (sg a ≤ sg b)))
    rw [lessF_iff (by rw [hb]; exact ha) ha, truth_bits, ← decide_not]
    congr 2
    exact decide_eq_decide.2 (by omega)
  · show [lessF b a] = bitsR 1 (truth (decide (sg b < sg a)))
    rw [lessF_iff (by rw [hb]; exact ha) ha, truth_bits]
  · show [!lessF a b] = bitsR 1 (truth (decide (sg b ≤ sg a)))
    rw [lessF_iff ha (by rw [hb]; exact ha), truth_bits, ← decide_not]
    congr 2
    exact decide_eq_decide.2 (by omega)
end Go.Z.Bit
/- Chapter 38, plain: literals that stand for functions of the inputs. No program in sight. Conditions: none. -/
namespace Go.Z.Bit
set_option maxRecDepth 8000
set_option linter.unusedVariables false
set_option linter.unusedSimpArgs false
set_option linter.unusedSectionVars false
open Go Go.Z Go.Z.Aig Go.Proofs.Ytkebblmmgcgjkaa

def Den (T : St) (l : Int) (f : List Bool → Bool) : Prop := has T l ∧ ∀ inp, litv (vals T inp) l = f inp
def DenL (T : St) (ls : List Int) (f : List Bool → List Bool) : Prop := (∀ l ∈ ls, has T l) ∧ ∀ inp, ls.map (litv (vals T inp)) = f inp
structure Up (S T : St) (k : Nat) : Prop where
  wf : WF T
  ext : Ext S T
  len : T.length ≤ S.length + k
theorem Up.refl {S : St} (h : WF S) : Up S S 0 := ⟨h, Ext.refl S, Nat.le_refl _⟩
theorem Up.trans {S T U : St} {j k m : Nat} (h : Up S T j) (g : Up T U k) (e : j + k ≤ m) : Up S U m := ⟨g.wf, h.ext.trans g.ext, by have := h.len; have := g.len; omega⟩
theorem Den.i64 {T : St} {l : Int} {f : List Bool → Bool} (hw : WF T) (h : Den T l f) : I64 l := by
  have := hw.lim; have := h.1.1; have := h.1.2; unfold I64; omega
theorem Den.up {S T : St} {l : Int} {f : List Bool → Bool} {k : Nat} (hw : WF S) (h : Den S l f) (u : Up S T k) : Den T l f :=
  ⟨u.ext.has h.1, fun inp => by rw [litv_ext hw u.ext inp h.1]; exact h.2 inp⟩
theorem DenL.up {S T : St} {ls : List Int} {f : List Bool → List Bool} {k : Nat} (hw : WF S) (h : DenL S ls f) (u : Up S T k) : DenL T ls f :=
  ⟨fun l hl => u.ext.has (h.1 l hl), fun inp => by rw [← h.2 inp]; exact List.map_congr_left fun l hl => litv_ext hw u.ext inp (h.1 l hl)⟩
theorem Den.congr {T : St} {l : Int} {f g : List Bool → Bool} (h : Den T l f) (e : ∀ i, f i = g i) : Den T l g := ⟨h.1, fun i => (h.2 i).trans (e i)⟩
theorem DenL.congr {T : St} {l : List Int} {f g : List Bool → List Bool} (h : DenL T l f) (e : ∀ i, f i = g i) : DenL T l g := ⟨h.1, fun i => (h.2 i).trans (e i)⟩
theorem DenL.len {T : St} {ls : List Int} {f : List Bool → List Bool} (h : DenL T ls f) (i : List Bool) : (f i).length = ls.length := by rw [← h.2 i, List.length_map]
theorem DenL.nil {T : St} : DenL T [] (fun _ => []) := ⟨fun l h => absurd h List.not_mem_nil, fun _ => rfl⟩
theorem DenL.snoc {T : St} {ls : List Int} {f : List Bool → List Bool} {l : Int} {g : List Bool → Bool} (h : DenL T ls f) (d : Den T l g) : DenL T (ls ++ [l]) (fun i => f i ++ [g i]) :=
  ⟨fun x hx => by
    rcases List.mem_append.1 hx with hx | hx
    · exact h.1 x hx
    · rw [List.mem_singleton.1 hx]; exact d.1, fun i => by rw [List.map_append, h.2 i]; simp [d.2 i]⟩
theorem DenL.cons {T : St} {ls : List Int} {f : List Bool → List Bool} {l : Int} {g : List Bool → Bool} (d : Den T l g) (h : DenL T ls f) : DenL T (l :: ls) (fun i => g i :: f i) :=
  ⟨fun x hx => by
    rcases List.mem_cons.1 hx with hx | hx
    · rw [hx]; exact d.1
    · exact h.1 x hx, fun i => by rw [List.map_cons, h.2 i, d.2 i]⟩
theorem DenL.one {T : St} {l : Int} {g : List Bool → Bool} (d : Den T l g) : DenL T [l] (fun i => [g i]) := .cons d .nil
theorem DenL.app {T : St} {ls ms : List Int} {f g : List Bool → List Bool} (h : DenL T ls f) (d : DenL T ms g) : DenL T (ls ++ ms) (fun i => f i ++ g i) :=
  ⟨fun x hx => by
    rcases List.mem_append.1 hx with hx | hx
    · exact h.1 x hx
    · exact d.1 x hx, fun i => by rw [List.map_append, h.2 i, d.2 i]⟩
theorem DenL.take {T : St} {ls : List Int} {f : List Bool → List Bool} (h : DenL T ls f) (k : Nat) : DenL T (ls.take k) (fun i => (f i).take k) :=
  ⟨fun x hx => h.1 x (List.mem_of_mem_take hx), fun i => by rw [List.map_take, h.2 i]⟩
theorem DenL.drop {T : St} {ls : List Int} {f : List Bool → List Bool} (h : DenL T ls f) (k : Nat) : DenL T (ls.drop k) (fun i => (f i).drop k) :=
  ⟨fun x hx => h.1 x (List.mem_of_mem_drop hx), fun i => by rw [List.map_drop, h.2 i]⟩
theorem DenL.get {T : St} {ls : List Int} {f : List Bool → List Bool} (h : DenL T ls f) {k : Nat} (hk : k < ls.length) : Den T ls[k] (fun i => (f i).getD k false) :=
  ⟨h.1 _ (List.getElem_mem hk), fun i => by show _ = (f i).getD k false; rw [← h.2 i, List.getD_eq_getElem?_getD, List.getElem?_map, List.getElem?_eq_getElem hk]; rfl⟩
theorem DenL.set {T : St} {ls : List Int} {f : List Bool → List Bool} {l : Int} {g : List Bool → Bool} (h : DenL T ls f) (d : Den T l g) (k : Nat) : DenL T (ls.set k l) (fun i => (f i).set k (g i)) :=
  ⟨fun x hx => by
    rcases List.mem_or_eq_of_mem_set hx with hx | hx
    · exact h.1 x hx
    · rw [hx]; exact d.1, fun i => by rw [List.map_set, h.2 i, d.2 i]⟩
theorem Den.not {T : St} {l : Int} {f : List Bool → Bool} (d : Den T l f) : Den T (nt l) (fun i => !f i) := ⟨nt_has d.1, fun i => by rw [litv_nt _ d.1.1, d.2 i]⟩
theorem DenL.not {T : St} {ls : List Int} {f : List Bool → List Bool} (h : DenL T ls f) : DenL T (ls.map nt) (fun i => (f i).map (!·)) :=
  ⟨fun x hx => by obtain ⟨y, hy, rfl⟩ := List.mem_map.1 hx; exact nt_has (h.1 y hy), fun i => by
    show _ = (f i).map (!·)
    rw [← h.2 i, List.map_map, List.map_map]
    exact List.map_congr_left fun x hx => litv_nt _ (h.1 x hx).1⟩
theorem Den.zero {T : St} (hw : WF T) : Den T 0 (fun _ => false) := ⟨⟨Int.le_refl _, by have := hw.pos; omega⟩, fun i => litv_zero hw i⟩
theorem Den.one {T : St} (hw : WF T) : Den T 1 (fun _ => true) := ⟨⟨by decide, by have := hw.pos; omega⟩, fun i => litv_one hw i⟩
theorem DenL.rep {T : St} (hw : WF T) : ∀ n : Nat, DenL T (List.replicate n 0) (fun _ => List.replicate n false)
  | 0 => .nil
  | n + 1 => .cons (Den.zero hw) (DenL.rep hw n)

theorem means_up {S T : St} {l : Int} {k : Nat} {f : (Int → Bool) → Bool} (h : Means S (l, 0, T) k f) : Up S T k := ⟨h.wf, h.ext, h.len⟩
theorem and_den {S : St} (hw : WF S) (hl : S.length < 131072) {a b : Int} {fa fb : List Bool → Bool} (ha : Den S a fa) (hb : Den S b fb) : ∃ l T, and1 S a b = (l, 0, T) ∧ Up S T 1 ∧ Den T l (fun i => fa i && fb i) := by
  have g := good_and hw hl ha.1 hb.1
  obtain ⟨⟨l, e, T⟩, h⟩ : ∃ r, and1 S a b = r := ⟨_, rfl⟩
  rw [h] at g
  obtain rfl : e = 0 := g.ok
  exact ⟨l, T, h, means_up g, g.has, fun i => by dsimp only; rw [← ha.2 i, ← hb.2 i]; exact g.val i⟩
theorem xor_den {S : St} (hw : WF S) (hl : S.length + 2 < 131072) {a b : Int} {fa fb : List Bool → Bool} (ha : Den S a fa) (hb : Den S b fb) : ∃ l T, xor1 S a b = (l, 0, T) ∧ Up S T 3 ∧ Den T l (fun i => fa i != fb i) := by
  have g := good_xor hw hl ha.1 hb.1
  obtain ⟨⟨l, e, T⟩, h⟩ : ∃ r, xor1 S a b = r := ⟨_, rfl⟩
  rw [h] at g
  obtain rfl : e = 0 := g.ok
  exact ⟨l, T, h, means_up g, g.has, fun i => by dsimp only; rw [← ha.2 i, ← hb.2 i]; exact g.val i⟩
theorem mux_den {S : St} (hw : WF S) (hl : S.length + 2 < 131072) {c a b : Int} {fc fa fb : List Bool → Bool} (hc : Den S c fc) (ha : Den S a fa) (hb : Den S b fb) : ∃ l T, mux1 S c a b = (l, 0, T) ∧ Up S T 3 ∧ Den T l (fun i => if fc i then fa i else fb i) := by
  have g := good_mux hw hl hc.1 ha.1 hb.1
  obtain ⟨⟨l, e, T⟩, h⟩ : ∃ r, mux1 S c a b = r := ⟨_, rfl⟩
  rw [h] at g
  obtain rfl : e = 0 := g.ok
  exact ⟨l, T, h, means_up g, g.has, fun i => by dsimp only; rw [← hc.2 i, ← ha.2 i, ← hb.2 i]; exact g.val i⟩

theorem take_succ' {l : List Bool} {k : Nat} (hk : k < l.length) : l.take (k + 1) = l.take k ++ [l.getD k false] := by
  rw [List.take_add_one, List.getElem?_eq_getElem hk, List.getD_eq_getElem?_getD, List.getElem?_eq_getElem hk]; rfl
theorem addF_step {xs ys : List Bool} (c : Bool) {k : Nat} (ha : k < xs.length) (hb : k < ys.length) :
    addF (xs.take (k + 1)) (ys.take (k + 1)) c = ((addF (xs.take k) (ys.take k) c).1 ++ [(xs.getD k false != ys.getD k false) != (addF (xs.take k) (ys.take k) c).2], if xs.getD k false != ys.getD k false then (addF (xs.take k) (ys.take k) c).2 else xs.getD k false) := by
  rw [take_succ' ha, take_succ' hb]
  exact addF_snoc _ _ _ _ _ (by rw [List.length_take, List.length_take]; omega)
theorem muxF_step (c : Bool) {xs ys : List Bool} {k : Nat} (ha : k < xs.length) (hb : k < ys.length) : muxF c (xs.take (k + 1)) (ys.take (k + 1)) = muxF c (xs.take k) (ys.take k) ++ [if c then xs.getD k false else ys.getD k false] := by
  rw [take_succ' ha, take_succ' hb]
  unfold muxF
  rw [List.zipWith_append (by rw [List.length_take, List.length_take]; omega)]; rfl
theorem xnor_step {xs ys : List Bool} {k : Nat} (ha : k < xs.length) (hb : k < ys.length) : List.zipWith (fun x y => !(x != y)) (xs.take (k + 1)) (ys.take (k + 1)) = List.zipWith (fun x y => !(x != y)) (xs.take k) (ys.take k) ++ [!(xs.getD k false != ys.getD k false)] := by
  rw [take_succ' ha, take_succ' hb, List.zipWith_append (by rw [List.length_take, List.length_take]; omega)]; rfl
end Go.Z.Bit
/- Chapter 38: gates, sums. Conditions: none. -/
namespace Go.Proofs.Ytkebblmmgcgjkaa
set_option maxRecDepth 8000
set_option linter.unusedVariables false
set_option linter.unusedSimpArgs false
set_option linter.unusedSectionVars false
open Go Go.Z Go.Z.Aig Go.Z.Bit

abbrev MkB (mb p : Nat) : Assn := Blk mb (.cells [.pointer (some ⟨p, 0, none⟩), .int .i64 0].toArray 146 (0, 0))
theorem lrd {ρ : Nat → Obj → Prop} {al : Option Addr} {ls : List Int} (h : RSl ρ 1 al ls.length (ls.map encI)) : ∃ b off cs T fz, 0 < ls.length → al = some ⟨b, off, none⟩ ∧ ρ b (.cells (cs : List Value).toArray T fz) ∧ ∀ i (hi : i < ls.length), cs[off + i * 1]? = some (.int .i64 ls[i]) := by
  obtain ⟨h1, b, off, cs, T, fz, h2⟩ := h
  refine ⟨b, off, cs, T, fz, fun h0 => ⟨(h2 h0).1, (h2 h0).2.1, fun i hi => (h2 h0).2.2 _ _ ?_⟩⟩
  rw [Nat.mul_one, List.getElem?_map, List.getElem?_eq_getElem hi]; rfl
theorem map_take_succ {ls : List Int} {k : Nat} (hk : k < ls.length) (f : Int → Value) : (ls.take k).map f ++ [f ls[k]] = (ls.take (k + 1)).map f := by
  rw [List.take_add_one, List.getElem?_eq_getElem hk, Option.toList_some, List.map_append]; rfl

theorem bnot_ok {ρ : Nat → Obj → Prop} {a : Int} (ha : I64 a) : Con Try.prog ρ 13 #[.int .i64 a] [] (fun v H => v = .int .i64 (nt a) ∧ H = []) := by
  have := not_ok (ρ := ρ) a
  rwa [nt_xor a ha] at this
theorem keep_ok {ρ : Nat → Obj → Prop} (mb p : Nat) (l : Int) : Con Try.prog ρ 116 #[.pointer (some ⟨mb, 0, none⟩), .int .i64 l, .int .i64 0] [MkB mb p] (fun v H => v = .int .i64 l ∧ H = [MkB mb p]) := by
  refine con_intro Try.func116 Try.call116 rfl Try.ntmps116 rfl (L := [(0, _), (1, _), (2, _)]) rfl fun w hh => ?_
  refine g_seq ?_
  refine g_region ?_
  refine g_pure (p_assign rfl) rfl ?_
  refine g_nil ?_
  refine g_qt ?_
  refine g_seq ?_
  refine g_seq ?_
  refine g_region ?_
  refine g_pure (p_move rfl) rfl ?_
  refine g_pure (p_nilCheck rfl) rfl ?_
  refine g_pure (p_fieldAddr rfl) rfl ?_
  refine g_pure (p_load (by rfl) rfl (by first | (apply Has.own; (repeat' (first | exact Take.here | apply Take.there)); done) | exact Has.ro (by assumption)) (by first | rfl | assumption)) rfl ?_
  refine g_pure (p_eqlT rfl rfl rfl) rfl ?_
  refine g_nil ?_
  refine g_qt ?_
  refine g_ift rfl ?_
  refine g_region ?_
  refine g_pure (p_move rfl) rfl ?_
  refine g_pure (p_move rfl) rfl ?_
  refine g_pure (p_nilCheck rfl) rfl ?_
  refine g_pure (p_fieldAddr rfl) rfl ?_
  first | refine g_eff0 (e_storeO rfl rfl (by rfl) (by rfl) (by rfl) (by repeat' (first | exact Take.here | apply Take.there)) (by rfl)) (fun _ _ => ?_) | refine g_eff0 (e_store1 (by rfl) rfl rfl rfl (by repeat' (first | exact Take.here | apply Take.there)) (by first | decide | (simp <;> omega) | omega)) (fun _ _ => ?_)
  rintro rfl
  refine g_nil ?_
  refine g_qt ?_
  refine g_seq ?_
  refine g_region ?_
  refine g_pure (p_move rfl) rfl ?_
  refine g_pure (p_assign rfl) rfl ?_
  refine g_nil ?_
  refine g_qt ?_
  refine g_ret ?_
  exact g_post (rs := [.tmp 6]) rfl (.tmp rfl .nil) ⟨rfl, rfl⟩ (by repeat' (first | exact Cover.nil | exact Take.here | apply Cover.cons | apply Take.there))
theorem and_c {ρ : Nat → Obj → Prop} {p : Nat} {S T : St} {a b l : Int} (e : and1 S a b = (l, 0, T)) (ha : I64 a) (hb : I64 b) : Con Try.prog ρ 14 #[.pointer (some ⟨p, 0, none⟩), .int .i64 a, .int .i64 b] [Gr p S]
    (fun v H => v = .tuple #[.int .i64 l, .int .i64 0] ∧ H = [Gr p T]) := by have := and_ok (ρ := ρ) p S a b ha hb; rwa [e] at this
theorem xor_c {ρ : Nat → Obj → Prop} {p : Nat} {S T : St} {a b l : Int} (e : xor1 S a b = (l, 0, T)) (ha : I64 a) (hb : I64 b) : Con Try.prog ρ 117 #[.pointer (some ⟨p, 0, none⟩), .int .i64 a, .int .i64 b] [Gr p S]
    (fun v H => v = .tuple #[.int .i64 l, .int .i64 0] ∧ H = [Gr p T]) := by have := xor_ok (ρ := ρ) p S a b ha hb; rwa [e] at this
theorem mux_c {ρ : Nat → Obj → Prop} {p : Nat} {S T : St} {c a b l : Int} (e : mux1 S c a b = (l, 0, T)) (hc : I64 c) (ha : I64 a) (hb : I64 b) : Con Try.prog ρ 129 #[.pointer (some ⟨p, 0, none⟩), .int .i64 c, .int .i64 a, .int .i64 b] [Gr p S]
    (fun v H => v = .tuple #[.int .i64 l, .int .i64 0] ∧ H = [Gr p T]) := by have := mux_ok (ρ := ρ) p S c a b hc ha hb; rwa [e] at this

variable {ρ : Nat → Obj → Prop} {S : St} {a b c : Int} {fa fb fc : List Bool → Bool}
theorem mand_ok (mb p : Nat) (hw : WF S) (hl : S.length < 131072) (ha : Den S a fa) (hb : Den S b fb) : Con Try.prog ρ 94 #[.pointer (some ⟨mb, 0, none⟩), .int .i64 a, .int .i64 b] [MkB mb p, Gr p S]
    (fun v H => ∃ l T, v = .int .i64 l ∧ H = [MkB mb p, Gr p T] ∧ Up S T 1 ∧ Den T l (fun i => fa i && fb i)) := by
  obtain ⟨l, T, e, u, d⟩ := and_den hw hl ha hb
  refine con_intro Try.func94 Try.call94 rfl Try.ntmps94 rfl (L := [(0, _), (1, _), (2, _)]) rfl fun w hh => ?_
  refine g_seq ?_
  refine g_region ?_
  refine g_pure (p_assign rfl) rfl ?_
  refine g_nil ?_
  refine g_qt ?_
  refine g_seq ?_
  refine g_seq ?_
  refine g_region ?_
  refine g_pure (p_move rfl) rfl ?_
  refine g_pure (p_nilCheck rfl) rfl ?_
  refine g_pure (p_fieldAddr rfl) rfl ?_
  refine g_pure (p_load (by rfl) rfl (by first | (apply Has.own; (repeat' (first | exact Take.here | apply Take.there)); done) | exact Has.ro (by assumption)) (by first | rfl | assumption)) rfl ?_
  refine g_pure (p_neqF rfl rfl rfl) rfl ?_
  refine g_nil ?_
  refine g_qt ?_
  refine g_iff rfl ?_
  refine g_skip ?_
  refine g_qt ?_
  refine g_seq ?_
  refine g_region ?_
  refine g_pure (p_move rfl) rfl ?_
  refine g_pure (p_move rfl) rfl ?_
  refine g_pure (p_nilCheck rfl) rfl ?_
  refine g_pure (p_fieldAddr rfl) rfl ?_
  refine g_pure (p_load (by rfl) rfl (by first | (apply Has.own; (repeat' (first | exact Take.here | apply Take.there)); done) | exact Has.ro (by assumption)) (by first | rfl | assumption)) rfl ?_
  refine g_pure (p_move rfl) rfl ?_
  refine g_pure (p_move rfl) rfl ?_
  refine g_call (Hin := ?hi1) (Hr := ?hr1) (R := ?rr1) rfl rfl rfl ?hin1 ?hc1 ?hk1
  case hc1 => intro ρ' hρ hR; exact and_c e (ha.i64 hw) (hb.i64 hw)
  case hin1 => repeat' (first | exact Cover.nil | exact Take.here | apply Cover.cons | apply Take.there)
  rintro _ _ ⟨rfl, rfl⟩
  refine g_pure (p_extract rfl rfl) rfl ?_
  refine g_pure (p_extract rfl rfl) rfl ?_
  refine g_call (Hin := ?hi2) (Hr := ?hr2) (R := ?rr2) rfl rfl rfl ?hin2 ?hc2 ?hk2
  case hc2 => intro ρ' hρ hR; exact keep_ok mb p l
  case hin2 => repeat' (first | exact Cover.nil | exact Take.here | apply Cover.cons | apply Take.there)
  rintro _ _ ⟨rfl, rfl⟩
  refine g_pure (p_assign rfl) rfl ?_
  refine g_nil ?_
  refine g_qt ?_
  refine g_ret ?_
  exact g_post (rs := [.tmp 6]) rfl (.tmp rfl .nil) ⟨l, T, rfl, rfl, u, d⟩ (by repeat' (first | exact Cover.nil | exact Take.here | apply Cover.cons | apply Take.there))
theorem mxor_ok (mb p : Nat) (hw : WF S) (hl : S.length + 2 < 131072) (ha : Den S a fa) (hb : Den S b fb) : Con Try.prog ρ 96 #[.pointer (some ⟨mb, 0, none⟩), .int .i64 a, .int .i64 b] [MkB mb p, Gr p S]
    (fun v H => ∃ l T, v = .int .i64 l ∧ H = [MkB mb p, Gr p T] ∧ Up S T 3 ∧ Den T l (fun i => fa i != fb i)) := by
  obtain ⟨l, T, e, u, d⟩ := xor_den hw hl ha hb
  refine con_intro Try.func96 Try.call96 rfl Try.ntmps96 rfl (L := [(0, _), (1, _), (2, _)]) rfl fun w hh => ?_
  refine g_seq ?_
  refine g_region ?_
  refine g_pure (p_assign rfl) rfl ?_
  refine g_nil ?_
  refine g_qt ?_
  refine g_seq ?_
  refine g_seq ?_
  refine g_region ?_
  refine g_pure (p_move rfl) rfl ?_
  refine g_pure (p_nilCheck rfl) rfl ?_
  refine g_pure (p_fieldAddr rfl) rfl ?_
  refine g_pure (p_load (by rfl) rfl (by first | (apply Has.own; (repeat' (first | exact Take.here | apply Take.there)); done) | exact Has.ro (by assumption)) (by first | rfl | assumption)) rfl ?_
  refine g_pure (p_neqF rfl rfl rfl) rfl ?_
  refine g_nil ?_
  refine g_qt ?_
  refine g_iff rfl ?_
  refine g_skip ?_
  refine g_qt ?_
  refine g_seq ?_
  refine g_region ?_
  refine g_pure (p_move rfl) rfl ?_
  refine g_pure (p_move rfl) rfl ?_
  refine g_pure (p_nilCheck rfl) rfl ?_
  refine g_pure (p_fieldAddr rfl) rfl ?_
  refine g_pure (p_load (by rfl) rfl (by first | (apply Has.own; (repeat' (first | exact Take.here | apply Take.there)); done) | exact Has.ro (by assumption)) (by first | rfl | assumption)) rfl ?_
  refine g_pure (p_move rfl) rfl ?_
  refine g_pure (p_move rfl) rfl ?_
  refine g_call (Hin := ?hi3) (Hr := ?hr3) (R := ?rr3) rfl rfl rfl ?hin3 ?hc3 ?hk3
  case hc3 => intro ρ' hρ hR; exact xor_c e (ha.i64 hw) (hb.i64 hw)
  case hin3 => repeat' (first | exact Cover.nil | exact Take.here | apply Cover.cons | apply Take.there)
  rintro _ _ ⟨rfl, rfl⟩
  refine g_pure (p_extract rfl rfl) rfl ?_
  refine g_pure (p_extract rfl rfl) rfl ?_
  refine g_call (Hin := ?hi4) (Hr := ?hr4) (R := ?rr4) rfl rfl rfl ?hin4 ?hc4 ?hk4
  case hc4 => intro ρ' hρ hR; exact keep_ok mb p l
  case hin4 => repeat' (first | exact Cover.nil | exact Take.here | apply Cover.cons | apply Take.there)
  rintro _ _ ⟨rfl, rfl⟩
  refine g_pure (p_assign rfl) rfl ?_
  refine g_nil ?_
  refine g_qt ?_
  refine g_ret ?_
  exact g_post (rs := [.tmp 6]) rfl (.tmp rfl .nil) ⟨l, T, rfl, rfl, u, d⟩ (by repeat' (first | exact Cover.nil | exact Take.here | apply Cover.cons | apply Take.there))
theorem mmux_ok (mb p : Nat) (hw : WF S) (hl : S.length + 2 < 131072) (hc : Den S c fc) (ha : Den S a fa) (hb : Den S b fb) : Con Try.prog ρ 106 #[.pointer (some ⟨mb, 0, none⟩), .int .i64 c, .int .i64 a, .int .i64 b] [MkB mb p, Gr p S]
    (fun v H => ∃ l T, v = .int .i64 l ∧ H = [MkB mb p, Gr p T] ∧ Up S T 3 ∧ Den T l (fun i => if fc i then fa i else fb i)) := by
  obtain ⟨l, T, e, u, d⟩ := mux_den hw hl hc ha hb
  refine con_intro Try.func106 Try.call106 rfl Try.ntmps106 rfl (L := [(0, _), (1, _), (2, _), (3, _)]) rfl fun w hh => ?_
  refine g_seq ?_
  refine g_region ?_
  refine g_pure (p_assign rfl) rfl ?_
  refine g_nil ?_
  refine g_qt ?_
  refine g_seq ?_
  refine g_seq ?_
  refine g_region ?_
  refine g_pure (p_move rfl) rfl ?_
  refine g_pure (p_nilCheck rfl) rfl ?_
  refine g_pure (p_fieldAddr rfl) rfl ?_
  refine g_pure (p_load (by rfl) rfl (by first | (apply Has.own; (repeat' (first | exact Take.here | apply Take.there)); done) | exact Has.ro (by assumption)) (by first | rfl | assumption)) rfl ?_
  refine g_pure (p_neqF rfl rfl rfl) rfl ?_
  refine g_nil ?_
  refine g_qt ?_
  refine g_iff rfl ?_
  refine g_skip ?_
  refine g_qt ?_
  refine g_seq ?_
  refine g_region ?_
  refine g_pure (p_move rfl) rfl ?_
  refine g_pure (p_move rfl) rfl ?_
  refine g_pure (p_nilCheck rfl) rfl ?_
  refine g_pure (p_fieldAddr rfl) rfl ?_
  refine g_pure (p_load (by rfl) rfl (by first | (apply Has.own; (repeat' (first | exact Take.here | apply Take.there)); done) | exact Has.ro (by assumption)) (by first | rfl | assumption)) rfl ?_
  refine g_pure (p_move rfl) rfl ?_
  refine g_pure (p_move rfl) rfl ?_
  refine g_pure (p_move rfl) rfl ?_
  refine g_call (Hin := ?hi5) (Hr := ?hr5) (R := ?rr5) rfl rfl rfl ?hin5 ?hc5 ?hk5
  case hc5 => intro ρ' hρ hR; exact mux_c e (hc.i64 hw) (ha.i64 hw) (hb.i64 hw)
  case hin5 => repeat' (first | exact Cover.nil | exact Take.here | apply Cover.cons | apply Take.there)
  rintro _ _ ⟨rfl, rfl⟩
  refine g_pure (p_extract rfl rfl) rfl ?_
  refine g_pure (p_extract rfl rfl) rfl ?_
  refine g_call (Hin := ?hi6) (Hr := ?hr6) (R := ?rr6) rfl rfl rfl ?hin6 ?hc6 ?hk6
  case hc6 => intro ρ' hρ hR; exact keep_ok mb p l
  case hin6 => repeat' (first | exact Cover.nil | exact Take.here | apply Cover.cons | apply Take.there)
  rintro _ _ ⟨rfl, rfl⟩
  refine g_pure (p_assign rfl) rfl ?_
  refine g_nil ?_
  refine g_qt ?_
  refine g_ret ?_
  exact g_post (rs := [.tmp 8]) rfl (.tmp rfl .nil) ⟨l, T, rfl, rfl, u, d⟩ (by repeat' (first | exact Cover.nil | exact Take.here | apply Cover.cons | apply Take.there))
theorem mor_ok (mb p : Nat) (hw : WF S) (hl : S.length < 131072) (ha : Den S a fa) (hb : Den S b fb) : Con Try.prog ρ 95 #[.pointer (some ⟨mb, 0, none⟩), .int .i64 a, .int .i64 b] [MkB mb p, Gr p S]
    (fun v H => ∃ l T, v = .int .i64 l ∧ H = [MkB mb p, Gr p T] ∧ Up S T 1 ∧ Den T l (fun i => fa i || fb i)) := by
  refine con_intro Try.func95 Try.call95 rfl Try.ntmps95 rfl (L := [(0, _), (1, _), (2, _)]) rfl fun w hh => ?_
  refine g_seq ?_
  refine g_region ?_
  refine g_pure (p_assign rfl) rfl ?_
  refine g_nil ?_
  refine g_qt ?_
  refine g_seq ?_
  refine g_region ?_
  refine g_pure (p_move rfl) rfl ?_
  refine g_pure (p_move rfl) rfl ?_
  refine g_call (Hin := []) (Hr := ?hr7) (R := ?rr7) rfl rfl rfl ?hin7 ?hc7 ?hk7
  case hin7 => repeat' (first | exact Cover.nil | exact Take.here | apply Cover.cons | apply Take.there)
  case hc7 => intro ρ' hρ hR; exact bnot_ok (ha.i64 hw)
  rintro _ _ ⟨rfl, rfl⟩
  refine g_pure (p_move rfl) rfl ?_
  refine g_call (Hin := []) (Hr := ?hr8) (R := ?rr8) rfl rfl rfl ?hin8 ?hc8 ?hk8
  case hin8 => repeat' (first | exact Cover.nil | exact Take.here | apply Cover.cons | apply Take.there)
  case hc8 => intro ρ' hρ hR; exact bnot_ok (hb.i64 hw)
  rintro _ _ ⟨rfl, rfl⟩
  refine g_call (Hin := ?hi9) (Hr := ?hr9) (R := ?rr9) rfl rfl rfl ?hin9 ?hc9 ?hk9
  case hc9 => intro ρ' hρ hR; exact mand_ok mb p hw hl ha.not hb.not
  case hin9 => repeat' (first | exact Cover.nil | exact Take.here | apply Cover.cons | apply Take.there)
  rintro _ _ ⟨l, T, rfl, rfl, u, d⟩
  refine g_call (Hin := []) (Hr := ?hr10) (R := ?rr10) rfl rfl rfl ?hin10 ?hc10 ?hk10
  case hin10 => repeat' (first | exact Cover.nil | exact Take.here | apply Cover.cons | apply Take.there)
  case hc10 => intro ρ' hρ hR; exact bnot_ok (d.i64 u.wf)
  rintro _ _ ⟨rfl, rfl⟩
  refine g_pure (p_assign rfl) rfl ?_
  refine g_nil ?_
  refine g_qt ?_
  refine g_ret ?_
  exact g_post (rs := [.tmp 6]) rfl (.tmp rfl .nil) ⟨nt l, T, rfl, rfl, u, d.not.congr fun i => by cases fa i <;> cases fb i <;> rfl⟩ (by repeat' (first | exact Cover.nil | exact Take.here | apply Cover.cons | apply Take.there))

variable {al bl : Option Addr} {cl cm : Nat} {ls ms : List Int} {f g : List Bool → List Bool}
theorem all_ok (mb p : Nat) (hw : WF S) (hl : S.length + ls.length < 131072) (hls : RSl ρ 1 al ls.length (ls.map encI)) (d : DenL S ls f) : Con Try.prog ρ 134 #[.pointer (some ⟨mb, 0, none⟩), .slice al ls.length cl] [MkB mb p, Gr p S]
    (fun v H => ∃ l T, v = .int .i64 l ∧ H = [MkB mb p, Gr p T] ∧ Up S T ls.length ∧ Den T l (fun i => allF (f i))) := by
  obtain ⟨b, off, cs, Tz, fz, hr⟩ := lrd hls
  refine con_intro Try.func134 Try.call134 rfl Try.ntmps134 rfl (L := [(0, _), (1, _)]) rfl fun w hh => ?_
  refine g_seq ?_
  refine g_region ?_
  refine g_pure (p_assign rfl) rfl ?_
  refine g_nil ?_
  refine g_qt ?_
  refine g_seq ?_
  refine g_region ?_
  refine g_pure (p_assign rfl) rfl ?_
  refine g_nil ?_
  refine g_qt ?_
  refine g_seq ?_
  refine g_seq ?_
  refine g_region ?_
  refine g_pure (p_move rfl) rfl ?_
  refine g_pure (p_len (by rfl) rfl) rfl ?_
  refine g_pure (p_move rfl) rfl ?_
  refine g_nil ?_
  refine g_qt ?_
  refine g_block ?_
  refine g_loop (fun q : Nat × Int × St => [(0, .pointer (some ⟨mb, 0, none⟩)), (5, .int .i64 q.2.1), (8, .slice al ls.length cl), (9, .int .i64 ls.length), (10, .int .i64 q.1)])
    (fun q => [MkB mb p, Gr p q.2.2]) (fun q => q.1 ≤ ls.length ∧ Up S q.2.2 q.1 ∧ Den q.2.2 q.2.1 (fun i => allF ((f i).take q.1))) (fun q => ls.length - q.1) (0, 1, S) ⟨Nat.zero_le _, .refl hw, (Den.one hw).congr fun i => rfl⟩ (by (repeat (first | exact trivial | refine ⟨by rfl, ?_⟩)); done) (by repeat' (first | exact Cover.nil | exact Take.here | apply Cover.cons | apply Take.there)) ?_
  rintro ⟨k, x, T⟩ ⟨hk, u, dx⟩
  dsimp only at hk u dx ⊢
  refine g_seq ?_
  refine g_region ?_
  refine g_pure (p_lss rfl rfl) rfl ?_
  refine g_nil ?_
  refine g_qt ?_
  refine g_seq ?_
  refine g_ifd rfl (fun h => ?_) (fun h => ?_)
  · have hkl : k < ls.length := by omega
    obtain ⟨r1, r2, r3⟩ := hr (by omega)
    have hul := u.len
    refine g_skip ?_
    refine g_qt ?_
    refine g_seq ?_
    refine g_block ?_
    refine g_seq ?_
    refine g_region ?_
    refine g_pure (p_indexAddr rfl rfl (by omega) (fun _ => r1)) rfl ?_
    refine g_pure (p_load (by rfl) rfl (Has.ro r2) (r3 k hkl)) rfl ?_
    refine g_pure (p_assign rfl) rfl ?_
    refine g_nil ?_
    refine g_qt ?_
    refine g_region ?_
    refine g_pure (p_move rfl) rfl ?_
    refine g_pure (p_move rfl) rfl ?_
    refine g_pure (p_move rfl) rfl ?_
    refine g_call (Hin := ?hi11) (Hr := ?hr11) (R := ?rr11) rfl rfl rfl ?hin11 ?hc11 ?hk11
    case hc11 => intro ρ' hρ hR; exact mand_ok mb p u.wf (by omega) dx ((d.get hkl).up hw u)
    case hin11 => repeat' (first | exact Cover.nil | exact Take.here | apply Cover.cons | apply Take.there)
    rintro _ _ ⟨l, U, rfl, rfl, u2, d2⟩
    refine g_pure (p_assign rfl) rfl ?_
    refine g_nil ?_
    refine g_qb ?_
    refine g_qt ?_
    refine g_region ?_
    first | refine g_pure (p_addi rfl rfl (by omega)) rfl ?_ | refine g_pure (p_add rfl rfl) rfl ?_
    refine g_pure (p_move rfl) rfl ?_
    refine g_nil ?_
    refine g_qn ?_
    exact g_next (k + 1, l, U) (by (repeat (first | exact trivial | refine ⟨by rfl, ?_⟩)); done) (by repeat' (first | exact Cover.nil | exact Take.here | apply Cover.cons | apply Take.there)) ⟨by dsimp only; omega, u.trans u2 (Nat.le_refl _), d2.congr fun i => by rw [take_succ' (by rw [d.len]; exact hkl), allF_snoc]⟩ (by dsimp only; omega)
  · have hke : k = ls.length := by omega
    subst hke
    refine g_exit ?_
    refine g_qt_exit ?_
    refine g_qn_exit ?_
    refine g_qb_exit ?_
    refine g_qt ?_
    refine g_seq ?_
    refine g_region ?_
    refine g_pure (p_move rfl) rfl ?_
    refine g_pure (p_assign rfl) rfl ?_
    refine g_nil ?_
    refine g_qt ?_
    refine g_ret ?_
    exact g_post (rs := [.tmp 4]) rfl (.tmp rfl .nil) ⟨x, T, rfl, rfl, u, dx.congr fun i => by rw [List.take_of_length_le (by rw [d.len]; exact Nat.le_refl _)]⟩ (by repeat' (first | exact Cover.nil | exact Take.here | apply Cover.cons | apply Take.there))

theorem bnots_ok {ρ : Nat → Obj → Prop} {al : Option Addr} {cl : Nat} {ls : List Int} (hi : ∀ l ∈ ls, I64 l) (hn : ls.length ≤ 100000) (hls : RSl ρ 1 al ls.length (ls.map encI)) : Con Try.prog ρ 92 #[.slice al ls.length cl] []
    (fun v H => ∃ a2 c2, v = .slice a2 ls.length c2 ∧ H = [OwnSl 27 1 a2 ls.length c2 ((ls.map nt).map encI)]) := by
  obtain ⟨b, off, cs, Tz, fz, hr⟩ := lrd hls
  refine con_intro Try.func92 Try.call92 rfl Try.ntmps92 rfl (L := [(0, _)]) rfl fun w hh => ?_
  refine g_seq ?_
  refine g_region ?_
  refine g_pure (p_assign rfl) rfl ?_
  refine g_nil ?_
  refine g_qt ?_
  refine g_seq ?_
  refine g_region ?_
  refine g_pure (p_assign rfl) rfl ?_
  refine g_nil ?_
  refine g_qt ?_
  refine g_seq ?_
  refine g_seq ?_
  refine g_region ?_
  refine g_pure (p_move rfl) rfl ?_
  refine g_pure (p_len (by rfl) rfl) rfl ?_
  refine g_pure (p_move rfl) rfl ?_
  refine g_nil ?_
  refine g_qt ?_
  refine g_block ?_
  refine g_ownnil (e := 27) (size := 1) ?_
  refine g_loop (fun q : Nat × Option Addr × Nat => [(3, .slice q.2.1 q.1 q.2.2), (6, .slice al ls.length cl), (7, .int .i64 ls.length), (8, .int .i64 q.1)])
    (fun q => [OwnSl 27 1 q.2.1 q.1 q.2.2 (((ls.map nt).take q.1).map encI)]) (fun q => q.1 ≤ ls.length) (fun q => ls.length - q.1) (0, none, 0) (Nat.zero_le _) (by (repeat (first | exact trivial | refine ⟨by rfl, ?_⟩)); done) (by repeat' (first | exact Cover.nil | exact Take.here | apply Cover.cons | apply Take.there)) ?_
  rintro ⟨k, oa, oc⟩ hk
  dsimp only at hk ⊢
  refine g_seq ?_
  refine g_region ?_
  refine g_pure (p_lss rfl rfl) rfl ?_
  refine g_nil ?_
  refine g_qt ?_
  refine g_seq ?_
  refine g_ifd rfl (fun h => ?_) (fun h => ?_)
  · have hkl : k < ls.length := by omega
    obtain ⟨r1, r2, r3⟩ := hr (by omega)
    refine g_skip ?_
    refine g_qt ?_
    refine g_seq ?_
    refine g_block ?_
    refine g_seq ?_
    refine g_region ?_
    refine g_pure (p_indexAddr rfl rfl (by omega) (fun _ => r1)) rfl ?_
    refine g_pure (p_load (by rfl) rfl (Has.ro r2) (r3 k hkl)) rfl ?_
    refine g_pure (p_assign rfl) rfl ?_
    refine g_nil ?_
    refine g_qt ?_
    refine g_region ?_
    refine g_pure (p_move rfl) rfl ?_
    refine g_pure (p_move rfl) rfl ?_
    refine g_call (Hin := []) (Hr := ?hr12) (R := ?rr12) rfl rfl rfl ?hin12 ?hc12 ?hk12
    case hin12 => repeat' (first | exact Cover.nil | exact Take.here | apply Cover.cons | apply Take.there)
    case hc12 => intro ρ' hρ hR; exact bnot_ok (hi _ (List.getElem_mem hkl))
    rintro _ _ ⟨rfl, rfl⟩
    refine g_eff (e_bs (xs := [.tmp 14]) rfl rfl rfl (by rfl) (by rfl) rfl (by rfl)) rfl (fun _ _ => ?_)
    rintro ⟨b15, rfl, rfl⟩
    refine g_eff (e_appendO (by rfl) (by rfl) rfl rfl (by first | (apply Has.own; (repeat' (first | exact Take.here | apply Take.there)); done) | exact Has.ro (by assumption)) (by rfl) (by rfl) (by repeat' (first | exact Take.here | apply Take.there)) (by omega) (by first | omega | (dsimp only; omega) | (simp <;> omega)) (by omega)) rfl (fun _ _ => ?_)
    rintro ⟨a16, c16, rfl, rfl⟩
    refine g_pure (p_assign rfl) rfl ?_
    refine g_nil ?_
    refine g_qb ?_
    refine g_qt ?_
    refine g_region ?_
    first | refine g_pure (p_addi rfl rfl (by omega)) rfl ?_ | refine g_pure (p_add rfl rfl) rfl ?_
    refine g_pure (p_move rfl) rfl ?_
    refine g_nil ?_
    refine g_qn ?_
    have e := map_take_succ (ls := ls.map nt) (k := k) (by simpa using hkl) encI
    rw [List.getElem_map] at e
    have e' : ((ls.map nt).take k).map encI ++ [Value.int .i64 (nt ls[k])] = ((ls.map nt).take (k + 1)).map encI := e
    rw [e']
    exact g_next (k + 1, a16, c16) (by (repeat (first | exact trivial | refine ⟨by rfl, ?_⟩)); done) (by repeat' (first | exact Cover.nil | exact Take.here | apply Cover.cons | apply Take.there)) (by dsimp only; omega) (by dsimp only; omega)
  · have hke : k = ls.length := by omega
    subst hke
    refine g_exit ?_
    refine g_qt_exit ?_
    refine g_qn_exit ?_
    refine g_qb_exit ?_
    refine g_qt ?_
    refine g_seq ?_
    refine g_region ?_
    refine g_pure (p_move rfl) rfl ?_
    refine g_pure (p_assign rfl) rfl ?_
    refine g_nil ?_
    refine g_qt ?_
    refine g_ret ?_
    rw [List.take_of_length_le (by simp)]
    exact g_post (rs := [.tmp 2]) rfl (.tmp rfl .nil) ⟨oa, oc, rfl, rfl⟩ (by repeat' (first | exact Cover.nil | exact Take.here | apply Cover.cons | apply Take.there))

theorem muxes_ok (mb p : Nat) (hw : WF S) (hl : S.length + 3 * ls.length < 131072) (hls : RSl ρ 1 al ls.length (ls.map encI)) (hms : RSl ρ 1 bl ms.length (ms.map encI)) (he : ls.length = ms.length) (dc : Den S c fc) (d : DenL S ls f) (d' : DenL S ms g) :
    Con Try.prog ρ 69 #[.pointer (some ⟨mb, 0, none⟩), .int .i64 c, .slice al ls.length cl, .slice bl ms.length cm] [MkB mb p, Gr p S]
    (fun v H => ∃ a2 c2 out T, v = .slice a2 out.length c2 ∧ H = [OwnSl 27 1 a2 out.length c2 (out.map encI), MkB mb p, Gr p T] ∧ out.length = ls.length ∧ Up S T (3 * ls.length) ∧ DenL T out (fun i => muxF (fc i) (f i) (g i))) := by
  obtain ⟨b1, o1, cs1, T1, fz1, hr⟩ := lrd hls
  obtain ⟨b2, o2, cs2, T2, fz2, hr2⟩ := lrd hms
  refine con_intro Try.func69 Try.call69 rfl Try.ntmps69 rfl (L := [(0, _), (1, _), (2, _), (3, _)]) rfl fun w hh => ?_
  refine g_seq ?_
  refine g_region ?_
  refine g_pure (p_assign rfl) rfl ?_
  refine g_nil ?_
  refine g_qt ?_
  refine g_seq ?_
  refine g_region ?_
  refine g_pure (p_assign rfl) rfl ?_
  refine g_nil ?_
  refine g_qt ?_
  refine g_seq ?_
  refine g_seq ?_
  refine g_region ?_
  refine g_pure (p_move rfl) rfl ?_
  refine g_pure (p_len (by rfl) rfl) rfl ?_
  refine g_pure (p_move rfl) rfl ?_
  refine g_nil ?_
  refine g_qt ?_
  refine g_block ?_
  refine g_ownnil (e := 27) (size := 1) ?_
  refine g_loop (fun q : List Int × Option Addr × Nat × St => [(0, .pointer (some ⟨mb, 0, none⟩)), (1, .int .i64 c), (2, .slice al ls.length cl), (3, .slice bl ms.length cm), (9, .slice q.2.1 q.1.length q.2.2.1), (12, .int .i64 ls.length), (13, .int .i64 q.1.length)])
    (fun q => [OwnSl 27 1 q.2.1 q.1.length q.2.2.1 (q.1.map encI), MkB mb p, Gr p q.2.2.2]) (fun q => q.1.length ≤ ls.length ∧ Up S q.2.2.2 (3 * q.1.length) ∧ DenL q.2.2.2 q.1 (fun i => muxF (fc i) ((f i).take q.1.length) ((g i).take q.1.length))) (fun q => ls.length - q.1.length) ([], none, 0, S) ⟨Nat.zero_le _, .refl hw, .nil⟩ (by (repeat (first | exact trivial | refine ⟨by rfl, ?_⟩)); done) (by repeat' (first | exact Cover.nil | exact Take.here | apply Cover.cons | apply Take.there)) ?_
  rintro ⟨out, oa, oc, T⟩ ⟨hk, u, dx⟩
  dsimp only at hk u dx ⊢
  refine g_seq ?_
  refine g_region ?_
  refine g_pure (p_lss rfl rfl) rfl ?_
  refine g_nil ?_
  refine g_qt ?_
  refine g_seq ?_
  refine g_ifd rfl (fun h => ?_) (fun h => ?_)
  · have hkl : out.length < ls.length := by omega
    have hkm : out.length < ms.length := by omega
    obtain ⟨r1, r2, r3⟩ := hr (by omega)
    obtain ⟨s1, s2, s3⟩ := hr2 (by omega)
    have hul := u.len
    refine g_skip ?_
    refine g_qt ?_
    refine g_seq ?_
    refine g_block ?_
    refine g_seq ?_
    refine g_region ?_
    refine g_pure (p_move rfl) rfl ?_
    refine g_pure (p_assign rfl) rfl ?_
    refine g_nil ?_
    refine g_qt ?_
    refine m_begin0 (.fl 0 0 (.fl 1 0 (.fl 2 0 (.fl 3 0 (.fl 4 0 (.fl 5 0 (.fl 6 1 (.fl 7 0 (.fl 8 0 (.fl 9 0 (.fl 10 1 (.ef 11 (.ef 12 (.ef 13 (.fl 14 0 .done))))))))))))))) (by kernel_rfl) (by kernel_rfl) ?_
    refine m_float0 rfl (fun _ _ => p_move rfl) rfl ?_
    refine m_float0 rfl (fun _ _ => p_move rfl) rfl ?_
    refine m_float0 rfl (fun _ _ => p_move rfl) rfl ?_
    refine m_float0 rfl (fun _ _ => p_move rfl) rfl ?_
    refine m_float0 rfl (fun _ _ => p_move rfl) rfl ?_
    refine m_float0 rfl (fun _ _ => p_indexAddr rfl rfl (by omega) (fun _ => r1)) rfl ?_
    refine m_float rfl (p_load (by rfl) rfl (Has.ro r2) (r3 _ hkl)) rfl ?_
    refine m_float0 rfl (fun _ _ => p_move rfl) rfl ?_
    refine m_float0 rfl (fun _ _ => p_move rfl) rfl ?_
    refine m_float0 rfl (fun _ _ => p_indexAddr rfl rfl (by omega) (fun _ => s1)) rfl ?_
    refine m_float rfl (p_load (by rfl) rfl (Has.ro s2) (s3 _ hkm)) rfl ?_
    refine m_call (Hin := ?hi13) (Hr := ?hr13) (R := ?rr13) rfl wantedN rfl rfl rfl ?hin13 ?hc13 ?hk13
    case hc13 => intro ρ' hρ hR; exact mmux_ok mb p u.wf (by omega) (dc.up hw u) ((d.get hkl).up hw u) ((d'.get hkm).up hw u)
    case hin13 => repeat' (first | exact Cover.nil | exact Take.here | apply Cover.cons | apply Take.there)
    rintro _ _ ⟨l, U, rfl, rfl, u2, d2⟩
    refine ⟨.none (by kernel_rfl), ?_⟩
    refine m_eff rfl (e_bs (xs := [.tmp 27]) rfl rfl rfl (by rfl) (by rfl) rfl (by rfl)) rfl (fun _ _ => ?_)
    rintro ⟨b28, rfl, rfl⟩
    refine ⟨.none (by kernel_rfl), ?_⟩
    refine m_eff rfl (e_appendO (by rfl) (by rfl) rfl rfl (by first | (apply Has.own; (repeat' (first | exact Take.here | apply Take.there)); done) | exact Has.ro (by assumption)) (by rfl) (by rfl) (by repeat' (first | exact Take.here | apply Take.there)) (by omega) (by first | omega | (dsimp only; omega) | (simp <;> omega)) (by omega)) rfl (fun _ _ => ?_)
    rintro ⟨a29, c29, rfl, rfl⟩
    refine ⟨.none (by kernel_rfl), ?_⟩
    refine m_float0 rfl (fun _ _ => p_assign rfl) rfl ?_
    refine m_nil ?_
    refine g_qb ?_
    refine g_qt ?_
    refine g_region ?_
    first | refine g_pure (p_addi rfl rfl (by omega)) rfl ?_ | refine g_pure (p_add rfl rfl) rfl ?_
    refine g_pure (p_move rfl) rfl ?_
    refine g_nil ?_
    refine g_qn ?_
    have e' : out.map encI ++ [Value.int .i64 l] = (out ++ [l]).map encI := by rw [List.map_append]; rfl
    have e2 : out.length + 1 = (out ++ [l]).length := by simp
    rw [e']
    refine g_next (out ++ [l], a29, c29, U) (by rw [← e2]; exact (by (repeat (first | exact trivial | refine ⟨by rfl, ?_⟩)); done)) (by rw [← e2]; exact (by repeat' (first | exact Cover.nil | exact Take.here | apply Cover.cons | apply Take.there))) ⟨by rw [← e2]; omega, u.trans u2 (by rw [← e2]; omega), ?_⟩ (by rw [← e2]; omega)
    refine ((dx.up u.wf u2).snoc d2).congr fun i => ?_
    rw [← e2, muxF_step _ (by rw [d.len]; exact hkl) (by rw [d'.len]; exact hkm)]
  · have hke : out.length = ls.length := by omega
    refine g_exit ?_
    refine g_qt_exit ?_
    refine g_qn_exit ?_
    refine g_qb_exit ?_
    refine g_qt ?_
    refine g_seq ?_
    refine g_region ?_
    refine g_pure (p_move rfl) rfl ?_
    refine g_pure (p_assign rfl) rfl ?_
    refine g_nil ?_
    refine g_qt ?_
    refine g_ret ?_
    refine g_post (rs := [.tmp 8]) rfl (.tmp rfl .nil) ⟨oa, oc, out, T, rfl, rfl, hke, by rw [← hke]; exact u, dx.congr fun i => ?_⟩ (by repeat' (first | exact Cover.nil | exact Take.here | apply Cover.cons | apply Take.there))
    rw [List.take_of_length_le (by rw [d.len]; omega), List.take_of_length_le (by rw [d'.len]; omega)]

theorem sum_ok (mb p : Nat) (hw : WF S) (hl : S.length + 9 * ls.length < 131072) (hls : RSl ρ 1 al ls.length (ls.map encI)) (hms : RSl ρ 1 bl ms.length (ms.map encI)) (he : ls.length = ms.length) (dc : Den S c fc) (d : DenL S ls f) (d' : DenL S ms g) :
    Con Try.prog ρ 97 #[.pointer (some ⟨mb, 0, none⟩), .slice al ls.length cl, .slice bl ms.length cm, .int .i64 c] [MkB mb p, Gr p S]
    (fun v H => ∃ a2 c2 out co T, v = .tuple #[.slice a2 out.length c2, .int .i64 co] ∧ H = [OwnSl 27 1 a2 out.length c2 (out.map encI), MkB mb p, Gr p T] ∧ out.length = ls.length ∧ Up S T (9 * ls.length) ∧ DenL T out (fun i => (addF (f i) (g i) (fc i)).1) ∧ Den T co (fun i => (addF (f i) (g i) (fc i)).2)) := by
  obtain ⟨b1, o1, cs1, T1, fz1, hr⟩ := lrd hls
  obtain ⟨b2, o2, cs2, T2, fz2, hr2⟩ := lrd hms
  refine con_intro Try.func97 Try.call97 rfl Try.ntmps97 rfl (L := [(0, _), (1, _), (2, _), (3, _)]) rfl fun w hh => ?_
  refine g_seq ?_
  refine g_region ?_
  refine g_pure (p_assign rfl) rfl ?_
  refine g_pure (p_assign rfl) rfl ?_
  refine g_nil ?_
  refine g_qt ?_
  refine g_seq ?_
  refine g_region ?_
  refine g_pure (p_assign rfl) rfl ?_
  refine g_nil ?_
  refine g_qt ?_
  refine g_seq ?_
  refine g_seq ?_
  refine g_region ?_
  refine g_pure (p_move rfl) rfl ?_
  refine g_pure (p_len (by rfl) rfl) rfl ?_
  refine g_pure (p_move rfl) rfl ?_
  refine g_nil ?_
  refine g_qt ?_
  refine g_block ?_
  refine g_ownnil (e := 27) (size := 1) ?_
  refine g_loop (fun q : List Int × Option Addr × Nat × Int × St => [(0, .pointer (some ⟨mb, 0, none⟩)), (1, .slice al ls.length cl), (2, .slice bl ms.length cm), (3, .int .i64 q.2.2.2.1), (10, .slice q.2.1 q.1.length q.2.2.1), (14, .int .i64 ls.length), (15, .int .i64 q.1.length)])
    (fun q => [OwnSl 27 1 q.2.1 q.1.length q.2.2.1 (q.1.map encI), MkB mb p, Gr p q.2.2.2.2]) (fun q => q.1.length ≤ ls.length ∧ Up S q.2.2.2.2 (9 * q.1.length) ∧ DenL q.2.2.2.2 q.1 (fun i => (addF ((f i).take q.1.length) ((g i).take q.1.length) (fc i)).1) ∧ Den q.2.2.2.2 q.2.2.2.1 (fun i => (addF ((f i).take q.1.length) ((g i).take q.1.length) (fc i)).2)) (fun q => ls.length - q.1.length) ([], none, 0, c, S) ⟨Nat.zero_le _, .refl hw, .nil, dc⟩ (by (repeat (first | exact trivial | refine ⟨by rfl, ?_⟩)); done) (by repeat' (first | exact Cover.nil | exact Take.here | apply Cover.cons | apply Take.there)) ?_
  rintro ⟨out, oa, oc, c, T⟩ ⟨hk, u, dx, dy⟩
  dsimp only at hk u dx dy ⊢
  refine g_seq ?_
  refine g_region ?_
  refine g_pure (p_lss rfl rfl) rfl ?_
  refine g_nil ?_
  refine g_qt ?_
  refine g_seq ?_
  refine g_ifd rfl (fun h => ?_) (fun h => ?_)
  · have hkl : out.length < ls.length := by omega
    have hkm : out.length < ms.length := by omega
    obtain ⟨r1, r2, r3⟩ := hr (by omega)
    obtain ⟨s1, s2, s3⟩ := hr2 (by omega)
    have hul := u.len
    refine g_skip ?_
    refine g_qt ?_
    refine g_seq ?_
    refine g_block ?_
    refine g_seq ?_
    refine g_region ?_
    refine g_pure (p_move rfl) rfl ?_
    refine g_pure (p_assign rfl) rfl ?_
    refine g_nil ?_
    refine g_qt ?_
    refine g_seq ?_
    refine m_begin0 (.fl 0 0 (.fl 1 0 (.fl 2 0 (.fl 3 0 (.fl 4 1 (.fl 5 0 (.fl 6 0 (.fl 7 0 (.fl 8 1 (.ef 9 (.fl 10 0 .done))))))))))) (by kernel_rfl) (by kernel_rfl) ?_
    refine m_float0 rfl (fun _ _ => p_move rfl) rfl ?_
    refine m_float0 rfl (fun _ _ => p_move rfl) rfl ?_
    refine m_float0 rfl (fun _ _ => p_move rfl) rfl ?_
    refine m_float0 rfl (fun _ _ => p_indexAddr rfl rfl (by omega) (fun _ => r1)) rfl ?_
    refine m_float rfl (p_load (by rfl) rfl (Has.ro r2) (r3 _ hkl)) rfl ?_
    refine m_float0 rfl (fun _ _ => p_move rfl) rfl ?_
    refine m_float0 rfl (fun _ _ => p_move rfl) rfl ?_
    refine m_float0 rfl (fun _ _ => p_indexAddr rfl rfl (by omega) (fun _ => s1)) rfl ?_
    refine m_float rfl (p_load (by rfl) rfl (Has.ro s2) (s3 _ hkm)) rfl ?_
    refine m_call (Hin := ?hi14) (Hr := ?hr14) (R := ?rr14) rfl wantedN rfl rfl rfl ?hin14 ?hc14 ?hk14
    case hc14 => intro ρ' hρ hR; exact mxor_ok mb p u.wf (by omega) ((d.get hkl).up hw u) ((d'.get hkm).up hw u)
    case hin14 => repeat' (first | exact Cover.nil | exact Take.here | apply Cover.cons | apply Take.there)
    rintro _ _ ⟨x, U, rfl, rfl, u1, d1⟩
    refine ⟨.none (by kernel_rfl), ?_⟩
    refine m_float0 rfl (fun _ _ => p_assign rfl) rfl ?_
    refine m_nil ?_
    refine g_qt ?_
    refine g_seq ?_
    refine g_region ?_
    refine g_pure (p_move rfl) rfl ?_
    refine g_pure (p_move rfl) rfl ?_
    refine g_pure (p_move rfl) rfl ?_
    refine g_pure (p_move rfl) rfl ?_
    have hul1 := u1.len
    refine g_call (Hin := ?hi15) (Hr := ?hr15) (R := ?rr15) rfl rfl rfl ?hin15 ?hc15 ?hk15
    case hc15 => intro ρ' hρ hR; exact mxor_ok mb p u1.wf (by omega) d1 (dy.up u.wf u1)
    case hin15 => repeat' (first | exact Cover.nil | exact Take.here | apply Cover.cons | apply Take.there)
    rintro _ _ ⟨l, U2, rfl, rfl, u2, d2⟩
    refine g_eff (e_bs (xs := [.tmp 32]) rfl rfl rfl (by rfl) (by rfl) rfl (by rfl)) rfl (fun _ _ => ?_)
    rintro ⟨b33, rfl, rfl⟩
    refine g_eff (e_appendO (by rfl) (by rfl) rfl rfl (by first | (apply Has.own; (repeat' (first | exact Take.here | apply Take.there)); done) | exact Has.ro (by assumption)) (by rfl) (by rfl) (by repeat' (first | exact Take.here | apply Take.there)) (by omega) (by first | omega | (dsimp only; omega) | (simp <;> omega)) (by omega)) rfl (fun _ _ => ?_)
    rintro ⟨a34, c34, rfl, rfl⟩
    refine g_pure (p_assign rfl) rfl ?_
    refine g_nil ?_
    refine g_qt ?_
    refine g_region ?_
    refine g_pure (p_move rfl) rfl ?_
    refine g_pure (p_move rfl) rfl ?_
    refine g_pure (p_move rfl) rfl ?_
    refine g_pure (p_move rfl) rfl ?_
    refine g_pure (p_move rfl) rfl ?_
    refine g_pure (p_indexAddr rfl rfl (by omega) (fun _ => r1)) rfl ?_
    refine g_pure (p_load (by rfl) rfl (Has.ro r2) (r3 _ hkl)) rfl ?_
    have hul2 := u2.len
    have u12 := u1.trans u2 (Nat.le_refl _)
    refine g_call (Hin := ?hi16) (Hr := ?hr16) (R := ?rr16) rfl rfl rfl ?hin16 ?hc16 ?hk16
    case hc16 => intro ρ' hρ hR; exact mmux_ok mb p u2.wf (by omega) (d1.up u1.wf u2) (dy.up u.wf u12) ((d.get hkl).up hw (u.trans u12 (Nat.le_refl _)))
    case hin16 => repeat' (first | exact Cover.nil | exact Take.here | apply Cover.cons | apply Take.there)
    rintro _ _ ⟨c', U3, rfl, rfl, u3, d3⟩
    refine g_pure (p_assign rfl) rfl ?_
    refine g_nil ?_
    refine g_qb ?_
    refine g_qt ?_
    refine g_region ?_
    first | refine g_pure (p_addi rfl rfl (by omega)) rfl ?_ | refine g_pure (p_add rfl rfl) rfl ?_
    refine g_pure (p_move rfl) rfl ?_
    refine g_nil ?_
    refine g_qn ?_
    have e' : out.map encI ++ [Value.int .i64 l] = (out ++ [l]).map encI := by rw [List.map_append]; rfl
    have e2 : out.length + 1 = (out ++ [l]).length := by simp
    rw [e']
    have hstep := fun i => addF_step (xs := f i) (ys := g i) (fc i) (k := out.length) (by rw [d.len]; exact hkl) (by rw [d'.len]; exact hkm)
    refine g_next (out ++ [l], a34, c34, c', U3) (by rw [← e2]; exact (by (repeat (first | exact trivial | refine ⟨by rfl, ?_⟩)); done)) (by rw [← e2]; exact (by repeat' (first | exact Cover.nil | exact Take.here | apply Cover.cons | apply Take.there))) ⟨by rw [← e2]; omega, (u.trans u12 (Nat.le_refl _)).trans u3 (by rw [← e2]; omega), ?_, ?_⟩ (by rw [← e2]; omega)
    · refine ((dx.up u.wf (u12.trans u3 (Nat.le_refl _))).snoc (d2.up u2.wf u3)).congr fun i => ?_
      rw [← e2, hstep]
    · refine d3.congr fun i => ?_
      rw [← e2, hstep]
  · have hke : out.length = ls.length := by omega
    refine g_exit ?_
    refine g_qt_exit ?_
    refine g_qn_exit ?_
    refine g_qb_exit ?_
    refine g_qt ?_
    refine g_seq ?_
    refine g_region ?_
    refine g_pure (p_move rfl) rfl ?_
    refine g_pure (p_move rfl) rfl ?_
    refine g_pure (p_assign rfl) rfl ?_
    refine g_pure (p_assign rfl) rfl ?_
    refine g_nil ?_
    refine g_qt ?_
    refine g_ret ?_
    have ht : ∀ i, addF ((f i).take out.length) ((g i).take out.length) (fc i) = addF (f i) (g i) (fc i) := fun i => by
      rw [List.take_of_length_le (by rw [d.len]; omega), List.take_of_length_le (by rw [d'.len]; omega)]
    exact g_post (rs := [.tmp 8, .tmp 9]) rfl (.tmp rfl (.tmp rfl .nil)) ⟨oa, oc, out, c, T, rfl, rfl, hke, by rw [← hke]; exact u, dx.congr fun i => by rw [ht], dy.congr fun i => by rw [ht]⟩ (by repeat' (first | exact Cover.nil | exact Take.here | apply Cover.cons | apply Take.there))
end Go.Proofs.Ytkebblmmgcgjkaa
/- Chapter 38: constants, negation, comparisons. Conditions: none. -/
namespace Go.Z.Bit
set_option maxRecDepth 8000
set_option linter.unusedVariables false
set_option linter.unusedSimpArgs false
set_option linter.unusedSectionVars false
open Go Go.Z Go.Z.Aig
def lit1 (b : Bool) : Int := if b then 1 else 0
theorem bitsR_snoc : ∀ (k : Nat) (v : Int), bitsR (k + 1) v = bitsR k v ++ [decide (v / ((2 ^ k : Nat) : Int) % 2 = 1)]
  | 0, v => by simp [bitsR]
  | k + 1, v => by
    rw [bitsR, bitsR_snoc k, bitsR, List.cons_append]
    have e : v / 2 / ((2 ^ k : Nat) : Int) = v / ((2 ^ (k + 1) : Nat) : Int) := by
      rw [Int.ediv_ediv_of_nonneg (by decide), Nat.pow_succ, Int.natCast_mul, Int.mul_comm]; rfl
    rw [e]
theorem div_i64 {v : Int} (h : I64 v) (k : Nat) : I64 (v / ((2 ^ k : Nat) : Int)) := by
  have h1 : (1 : Int) ≤ ((2 ^ k : Nat) : Int) := by have := Nat.one_le_two_pow (n := k); omega
  generalize ((2 ^ k : Nat) : Int) = P at h1
  unfold I64 at *
  rcases Int.le_total 0 v with h0 | h0
  · have a1 := Int.ediv_nonneg h0 (show 0 ≤ P by omega)
    have a2 := Int.ediv_le_self P h0
    omega
  · have a1 : v / P ≤ 0 := by
      have := Int.ediv_le_ediv (c := P) (by omega) h0
      rwa [Int.zero_ediv] at this
    have a2 : v ≤ v / P := by
      refine Int.le_ediv_of_mul_le (by omega) ?_
      have := Int.mul_le_mul_of_nonpos_left h0 h1
      omega
    omega
theorem shr_i64 (v : Int) {k : Nat} (h : k ≤ 64) : v.fdiv (2 ^ (min ((k : Nat) : Int).toNat IntKind.i64.bits)) = v / ((2 ^ k : Nat) : Int) := by
  have e : min ((k : Nat) : Int).toNat IntKind.i64.bits = k := by rw [Int.toNat_natCast]; exact Nat.min_eq_left h
  rw [e, Int.fdiv_eq_ediv_of_nonneg _ (Int.pow_nonneg (by decide))]
  congr 1
theorem lit1_mod (v : Int) : v % 2 = lit1 (decide (v % 2 = 1)) := by
  unfold lit1
  rcases Int.emod_two_eq v with h | h <;> rw [h] <;> rfl
theorem DenL.const {T : St} (hw : WF T) : ∀ l : List Bool, DenL T (l.map lit1) (fun _ => l)
  | [] => .nil
  | true :: l => .cons (Den.one hw) (DenL.const hw l)
  | false :: l => .cons (Den.zero hw) (DenL.const hw l)
theorem bitsR_zero : ∀ n : Nat, bitsR n 0 = List.replicate n false
  | 0 => rfl
  | n + 1 => by rw [bitsR, List.replicate_succ]; congr 1; exact bitsR_zero n
theorem map_snoc {l : List Bool} {k : Nat} (hk : k < l.length) (h : Bool → Bool) : (l.take (k + 1)).map h = (l.take k).map h ++ [h (l.getD k false)] := by
  rw [take_succ' hk, List.map_append]; rfl
end Go.Z.Bit
namespace Go.Proofs.Ytkebblmmgcgjkaa
set_option maxRecDepth 8000
set_option linter.unusedVariables false
set_option linter.unusedSimpArgs false
set_option linter.unusedSectionVars false
open Go Go.Z Go.Z.Aig Go.Z.Bit

theorem constant_ok {ρ : Nat → Obj → Prop} (wd : Nat) (v : Int) (hw : wd ≤ 64) (hv : I64 v) : Con Try.prog ρ 56 #[.int .i64 wd, .int .i64 v] []
    (fun u H => ∃ a2 c2, u = .slice a2 wd c2 ∧ H = [OwnSl 27 1 a2 wd c2 (((bitsR wd v).map lit1).map encI)]) := by
  refine con_intro Try.func56 Try.call56 rfl Try.ntmps56 rfl (L := [(0, _), (1, _)]) rfl fun w hh => ?_
  refine g_seq ?_
  refine g_region ?_
  refine g_pure (p_assign rfl) rfl ?_
  refine g_nil ?_
  refine g_qt ?_
  refine g_seq ?_
  refine g_region ?_
  refine g_pure (p_assign rfl) rfl ?_
  refine g_nil ?_
  refine g_qt ?_
  refine g_seq ?_
  refine g_seq ?_
  refine g_region ?_
  refine g_pure (p_move rfl) rfl ?_
  refine g_pure (p_move rfl) rfl ?_
  refine g_nil ?_
  refine g_qt ?_
  refine g_block ?_
  refine g_ownnil (e := 27) (size := 1) ?_
  refine g_loop (fun q : Nat × Option Addr × Nat => [(1, .int .i64 v), (5, .slice q.2.1 q.1 q.2.2), (7, .int .i64 wd), (8, .int .i64 q.1)])
    (fun q => [OwnSl 27 1 q.2.1 q.1 q.2.2 (((bitsR q.1 v).map lit1).map encI)]) (fun q => q.1 ≤ wd) (fun q => wd - q.1) (0, none, 0) (Nat.zero_le _) (by (repeat (first | exact trivial | refine ⟨by rfl, ?_⟩)); done) (by repeat' (first | exact Cover.nil | exact Take.here | apply Cover.cons | apply Take.there)) ?_
  rintro ⟨k, oa, oc⟩ hk
  dsimp only at hk ⊢
  refine g_seq ?_
  refine g_region ?_
  refine g_pure (p_lss rfl rfl) rfl ?_
  refine g_nil ?_
  refine g_qt ?_
  refine g_seq ?_
  refine g_ifd rfl (fun h => ?_) (fun h => ?_)
  · refine g_skip ?_
    refine g_qt ?_
    refine g_seq ?_
    refine g_block ?_
    refine g_seq ?_
    refine g_region ?_
    refine g_pure (p_move rfl) rfl ?_
    refine g_pure (p_assign rfl) rfl ?_
    refine g_nil ?_
    refine g_qt ?_
    refine g_region ?_
    refine g_pure (p_move rfl) rfl ?_
    refine g_pure (p_move rfl) rfl ?_
    refine g_pure (p_move rfl) rfl ?_
    refine g_pure (p_shr rfl rfl (by omega)) rfl ?_
    refine g_pure (p_and rfl rfl) rfl ?_
    refine g_eff (e_bs (xs := [.tmp 15]) rfl rfl rfl (by rfl) (by rfl) rfl (by rfl)) rfl (fun _ _ => ?_)
    rintro ⟨b16, rfl, rfl⟩
    refine g_eff (e_appendO (by rfl) (by rfl) rfl rfl (by first | (apply Has.own; (repeat' (first | exact Take.here | apply Take.there)); done) | exact Has.ro (by assumption)) (by rfl) (by rfl) (by repeat' (first | exact Take.here | apply Take.there)) (by omega) (by first | omega | (dsimp only; omega) | (simp <;> omega)) (by omega)) rfl (fun _ _ => ?_)
    rintro ⟨a17, c17, rfl, rfl⟩
    refine g_pure (p_assign rfl) rfl ?_
    refine g_nil ?_
    refine g_qb ?_
    refine g_qt ?_
    refine g_region ?_
    first | refine g_pure (p_addi rfl rfl (by omega)) rfl ?_ | refine g_pure (p_add rfl rfl) rfl ?_
    refine g_pure (p_move rfl) rfl ?_
    refine g_nil ?_
    refine g_qn ?_
    rw [shr_i64 v (by omega), and1_i64 _ (div_i64 hv k), lit1_mod]
    have e : ((bitsR k v).map lit1).map encI ++ [Value.int .i64 (lit1 (decide (v / ((2 ^ k : Nat) : Int) % 2 = 1)))] = ((bitsR (k + 1) v).map lit1).map encI := by
      rw [bitsR_snoc, List.map_append, List.map_append]; rfl
    rw [e]
    exact g_next (k + 1, a17, c17) (by (repeat (first | exact trivial | refine ⟨by rfl, ?_⟩)); done) (by repeat' (first | exact Cover.nil | exact Take.here | apply Cover.cons | apply Take.there)) (by dsimp only; omega) (by dsimp only; omega)
  · have hke : k = wd := by omega
    subst hke
    refine g_exit ?_
    refine g_qt_exit ?_
    refine g_qn_exit ?_
    refine g_qb_exit ?_
    refine g_qt ?_
    refine g_seq ?_
    refine g_region ?_
    refine g_pure (p_move rfl) rfl ?_
    refine g_pure (p_assign rfl) rfl ?_
    refine g_nil ?_
    refine g_qt ?_
    refine g_ret ?_
    exact g_post (rs := [.tmp 4]) rfl (.tmp rfl .nil) ⟨oa, oc, rfl, rfl⟩ (by repeat' (first | exact Cover.nil | exact Take.here | apply Cover.cons | apply Take.there))

variable {ρ : Nat → Obj → Prop} {S : St} {a b c : Int} {fa fb fc : List Bool → Bool}
variable {al bl : Option Addr} {cl cm : Nat} {ls ms : List Int} {f g : List Bool → List Bool}
theorem i64_of (hw : WF S) (d : DenL S ls f) : ∀ l ∈ ls, I64 l := fun l hl => by
  have := hw.lim; have := (d.1 l hl).1; have := (d.1 l hl).2; unfold I64; omega
theorem set_own {cur : List Value} {ls : List Int} {n k : Nat} {x : Int} (h : cur.take (n * 1) = ls.map encI) : (cur.set (0 + k * 1) (.int .i64 x)).take (n * 1) = (ls.set k x).map encI := by
  rw [Nat.mul_one] at h
  rw [Nat.zero_add, Nat.mul_one, Nat.mul_one, List.take_set, h, List.map_set]; rfl
theorem negate_ok (mb p : Nat) (hw : WF S) (hn : ls.length ≤ 64) (hl : S.length + 12 * ls.length < 131072) (hls : RSl ρ 1 al ls.length (ls.map encI)) (dc : Den S c fc) (d : DenL S ls f) :
    Con Try.prog ρ 93 #[.pointer (some ⟨mb, 0, none⟩), .int .i64 c, .slice al ls.length cl] [MkB mb p, Gr p S]
    (fun v H => ∃ a2 c2 out T, v = .slice a2 out.length c2 ∧ H = [OwnSl 27 1 a2 out.length c2 (out.map encI), MkB mb p, Gr p T] ∧ out.length = ls.length ∧ Up S T (12 * ls.length) ∧ DenL T out (fun i => negF (fc i) (f i))) := by
  obtain ⟨b1, o1, cs1, T1, fz1, hr⟩ := lrd hls
  refine con_intro Try.func93 Try.call93 rfl Try.ntmps93 rfl (L := [(0, _), (1, _), (2, _)]) rfl fun w hh => ?_
  refine g_seq ?_
  refine g_region ?_
  refine g_pure (p_assign rfl) rfl ?_
  refine g_nil ?_
  refine g_qt ?_
  refine g_seq ?_
  refine g_region ?_
  refine g_pure (p_assign rfl) rfl ?_
  refine g_nil ?_
  refine g_qt ?_
  refine g_seq ?_
  refine g_seq ?_
  refine g_region ?_
  refine g_pure (p_move rfl) rfl ?_
  refine g_pure (p_len (by rfl) rfl) rfl ?_
  refine g_pure (p_move rfl) rfl ?_
  refine g_nil ?_
  refine g_qt ?_
  refine g_block ?_
  refine g_ownnil (e := 27) (size := 1) ?_
  refine g_loop (fun q : List Int × Option Addr × Nat × St => [(0, .pointer (some ⟨mb, 0, none⟩)), (1, .int .i64 c), (2, .slice al ls.length cl), (7, .slice q.2.1 q.1.length q.2.2.1), (12, .slice al ls.length cl), (13, .int .i64 ls.length), (14, .int .i64 q.1.length)])
    (fun q => [OwnSl 27 1 q.2.1 q.1.length q.2.2.1 (q.1.map encI), MkB mb p, Gr p q.2.2.2]) (fun q => q.1.length ≤ ls.length ∧ Up S q.2.2.2 (3 * q.1.length) ∧ DenL q.2.2.2 q.1 (fun i => ((f i).take q.1.length).map (fc i != ·))) (fun q => ls.length - q.1.length) ([], none, 0, S) ⟨Nat.zero_le _, .refl hw, .nil⟩ (by (repeat (first | exact trivial | refine ⟨by rfl, ?_⟩)); done) (by repeat' (first | exact Cover.nil | exact Take.here | apply Cover.cons | apply Take.there)) ?_
  rintro ⟨out, oa, oc, T⟩ ⟨hk, u, dx⟩
  dsimp only at hk u dx ⊢
  refine g_seq ?_
  refine g_region ?_
  refine g_pure (p_lss rfl rfl) rfl ?_
  refine g_nil ?_
  refine g_qt ?_
  refine g_seq ?_
  refine g_ifd rfl (fun h => ?_) (fun h => ?_)
  · have hkl : out.length < ls.length := by omega
    obtain ⟨r1, r2, r3⟩ := hr (by omega)
    have hul := u.len
    refine g_skip ?_
    refine g_qt ?_
    refine g_seq ?_
    refine g_block ?_
    refine g_seq ?_
    refine g_region ?_
    refine g_pure (p_indexAddr rfl rfl (by omega) (fun _ => r1)) rfl ?_
    refine g_pure (p_load (by rfl) rfl (Has.ro r2) (r3 _ hkl)) rfl ?_
    refine g_pure (p_assign rfl) rfl ?_
    refine g_nil ?_
    refine g_qt ?_
    refine g_region ?_
    refine g_pure (p_move rfl) rfl ?_
    refine g_pure (p_move rfl) rfl ?_
    refine g_pure (p_move rfl) rfl ?_
    refine g_pure (p_move rfl) rfl ?_
    refine g_call (Hin := ?hi1) (Hr := ?hr1) (R := ?rr1) rfl rfl rfl ?hin1 ?hc1 ?hk1
    case hc1 => intro ρ' hρ hR; exact mxor_ok mb p u.wf (by omega) (dc.up hw u) ((d.get hkl).up hw u)
    case hin1 => repeat' (first | exact Cover.nil | exact Take.here | apply Cover.cons | apply Take.there)
    rintro _ _ ⟨l, U, rfl, rfl, u2, d2⟩
    refine g_eff (e_bs (xs := [.tmp 22]) rfl rfl rfl (by rfl) (by rfl) rfl (by rfl)) rfl (fun _ _ => ?_)
    rintro ⟨b23, rfl, rfl⟩
    refine g_eff (e_appendO (by rfl) (by rfl) rfl rfl (by first | (apply Has.own; (repeat' (first | exact Take.here | apply Take.there)); done) | exact Has.ro (by assumption)) (by rfl) (by rfl) (by repeat' (first | exact Take.here | apply Take.there)) (by omega) (by first | omega | (dsimp only; omega) | (simp <;> omega)) (by omega)) rfl (fun _ _ => ?_)
    rintro ⟨a24, c24, rfl, rfl⟩
    refine g_pure (p_assign rfl) rfl ?_
    refine g_nil ?_
    refine g_qb ?_
    refine g_qt ?_
    refine g_region ?_
    first | refine g_pure (p_addi rfl rfl (by omega)) rfl ?_ | refine g_pure (p_add rfl rfl) rfl ?_
    refine g_pure (p_move rfl) rfl ?_
    refine g_nil ?_
    refine g_qn ?_
    have e' : out.map encI ++ [Value.int .i64 l] = (out ++ [l]).map encI := by rw [List.map_append]; rfl
    have e2 : out.length + 1 = (out ++ [l]).length := by simp
    rw [e']
    refine g_next (out ++ [l], a24, c24, U) (by rw [← e2]; exact (by (repeat (first | exact trivial | refine ⟨by rfl, ?_⟩)); done)) (by rw [← e2]; exact (by repeat' (first | exact Cover.nil | exact Take.here | apply Cover.cons | apply Take.there))) ⟨by rw [← e2]; omega, u.trans u2 (by rw [← e2]; omega), ?_⟩ (by rw [← e2]; omega)
    refine ((dx.up u.wf u2).snoc d2).congr fun i => ?_
    rw [← e2, map_snoc (by rw [d.len]; exact hkl)]
  · have hke : out.length = ls.length := by omega
    have hul := u.len
    refine g_exit ?_
    refine g_qt_exit ?_
    refine g_qn_exit ?_
    refine g_qb_exit ?_
    refine g_qt ?_
    refine g_seq ?_
    refine g_region ?_
    refine g_pure (p_move rfl) rfl ?_
    refine g_pure (p_move rfl) rfl ?_
    refine g_pure (p_move rfl) rfl ?_
    refine g_pure (p_len (by rfl) rfl) rfl ?_
    refine g_call (Hin := []) (Hr := ?hr2) (R := ?rr2) rfl rfl rfl ?hin2 ?hc2 ?hk2
    case hin2 => repeat' (first | exact Cover.nil | exact Take.here | apply Cover.cons | apply Take.there)
    case hc2 => intro ρ' hρ hR; exact constant_ok ls.length 0 hn (by unfold I64; omega)
    rintro _ _ ⟨ka, kc, rfl, rfl⟩
    refine g_pure (p_move rfl) rfl ?_
    have hbz : ls.length = ((bitsR ls.length 0).map lit1).length := by rw [List.length_map, bitsR_len]
    have dz : DenL T ((bitsR ls.length 0).map lit1) (fun _ => bitsR ls.length 0) := .const u.wf _
    generalize hzz : (bitsR ls.length 0).map lit1 = zz at hbz dz ⊢
    rw [show (Value.slice ka ls.length kc) = .slice ka zz.length kc by rw [← hbz], show OwnSl 27 1 ka ls.length kc (zz.map encI) = OwnSl 27 1 ka zz.length kc (zz.map encI) by rw [← hbz]]
    refine g_call (Hin := [MkB mb p, Gr p T]) (Hr := ?hr3) (R := ?rr3) rfl rfl rfl ?hin3 ?hc3 ?hk3
    case hin3 => repeat' (first | exact Cover.nil | exact Take.here | apply Cover.cons | apply Take.there)
    case hc3 => intro ρ' hρ hR; exact sum_ok mb p u.wf (by omega) (RSl.of_own (Take.ro (A := OwnSl 27 1 oa out.length oc (out.map encI)) (by repeat' (first | exact Take.here | apply Take.there)) hR)) (RSl.of_own (Take.ro (A := OwnSl 27 1 ka zz.length kc (zz.map encI)) (by repeat' (first | exact Take.here | apply Take.there)) hR)) (by omega) (dc.up hw u) dx dz
    rintro _ _ ⟨a2, c2, out2, co, U, rfl, rfl, h2, u2, d2, _⟩
    refine g_pure (p_move rfl) rfl ?_
    refine g_pure (p_extract rfl rfl) rfl ?_
    refine g_pure (p_extract rfl rfl) rfl ?_
    refine g_pure (p_assign rfl) rfl ?_
    refine g_pure (p_assign rfl) rfl ?_
    refine g_nil ?_
    refine g_qt ?_
    refine g_seq ?_
    refine g_region ?_
    refine g_pure (p_move rfl) rfl ?_
    refine g_pure (p_assign rfl) rfl ?_
    refine g_nil ?_
    refine g_qt ?_
    refine g_ret ?_
    refine g_post (rs := [.tmp 6]) rfl (.tmp rfl .nil) ⟨a2, c2, out2, U, rfl, rfl, by omega, u.trans u2 (by omega), d2.congr fun i => ?_⟩ (by repeat' (first | exact Cover.nil | exact Take.here | apply Cover.cons | apply Take.there))
    unfold negF
    rw [List.take_of_length_le (by rw [d.len]; omega), d.len, bitsR_zero]

theorem zero_ok (mb p : Nat) (hw : WF S) (hn : ls.length ≤ 100000) (hl : S.length + ls.length < 131072) (hls : RSl ρ 1 al ls.length (ls.map encI)) (d : DenL S ls f) : Con Try.prog ρ 119 #[.pointer (some ⟨mb, 0, none⟩), .slice al ls.length cl] [MkB mb p, Gr p S]
    (fun v H => ∃ l T, v = .int .i64 l ∧ H = [MkB mb p, Gr p T] ∧ Up S T ls.length ∧ Den T l (fun i => zeroF (f i))) := by
  refine con_intro Try.func119 Try.call119 rfl Try.ntmps119 rfl (L := [(0, _), (1, _)]) rfl fun w hh => ?_
  refine g_seq ?_
  refine g_region ?_
  refine g_pure (p_assign rfl) rfl ?_
  refine g_nil ?_
  refine g_qt ?_
  refine g_seq ?_
  refine g_region ?_
  refine g_pure (p_move rfl) rfl ?_
  refine g_pure (p_move rfl) rfl ?_
  refine g_call (Hin := []) (Hr := ?hr4) (R := ?rr4) rfl rfl rfl ?hin4 ?hc4 ?hk4
  case hin4 => repeat' (first | exact Cover.nil | exact Take.here | apply Cover.cons | apply Take.there)
  case hc4 => intro ρ' hρ hR; exact bnots_ok (i64_of hw d) hn (hls.mono hρ)
  rintro _ _ ⟨a2, c2, rfl, rfl⟩
  have e : ls.length = (ls.map nt).length := (List.length_map _).symm
  rw [show (Value.slice a2 ls.length c2) = .slice a2 (ls.map nt).length c2 by rw [← e], show OwnSl 27 1 a2 ls.length c2 ((ls.map nt).map encI) = OwnSl 27 1 a2 (ls.map nt).length c2 ((ls.map nt).map encI) by rw [← e]]
  refine g_call (Hin := [MkB mb p, Gr p S]) (Hr := ?hr5) (R := ?rr5) rfl rfl rfl ?hin5 ?hc5 ?hk5
  case hin5 => repeat' (first | exact Cover.nil | exact Take.here | apply Cover.cons | apply Take.there)
  case hc5 => intro ρ' hρ hR; exact all_ok mb p hw (by rw [← e]; omega) (RSl.of_own (Take.ro (A := OwnSl 27 1 a2 (ls.map nt).length c2 ((ls.map nt).map encI)) (by repeat' (first | exact Take.here | apply Take.there)) hR)) d.not
  rintro _ _ ⟨l, T, rfl, rfl, u, d2⟩
  refine g_pure (p_assign rfl) rfl ?_
  refine g_nil ?_
  refine g_qt ?_
  refine g_ret ?_
  exact g_post (rs := [.tmp 4]) rfl (.tmp rfl .nil) ⟨l, T, rfl, rfl, by rw [e]; exact u, d2⟩ (by repeat' (first | exact Cover.nil | exact Take.here | apply Cover.cons | apply Take.there))

theorem equal_ok (mb p : Nat) (hw : WF S) (hl : S.length + 4 * ls.length < 131072) (hls : RSl ρ 1 al ls.length (ls.map encI)) (hms : RSl ρ 1 bl ms.length (ms.map encI)) (he : ls.length = ms.length) (d : DenL S ls f) (d' : DenL S ms g) :
    Con Try.prog ρ 120 #[.pointer (some ⟨mb, 0, none⟩), .slice al ls.length cl, .slice bl ms.length cm] [MkB mb p, Gr p S]
    (fun v H => ∃ l T, v = .int .i64 l ∧ H = [MkB mb p, Gr p T] ∧ Up S T (4 * ls.length) ∧ Den T l (fun i => equalF (f i) (g i))) := by
  obtain ⟨b1, o1, cs1, T1, fz1, hr⟩ := lrd hls
  obtain ⟨b2, o2, cs2, T2, fz2, hr2⟩ := lrd hms
  refine con_intro Try.func120 Try.call120 rfl Try.ntmps120 rfl (L := [(0, _), (1, _), (2, _)]) rfl fun w hh => ?_
  refine g_seq ?_
  refine g_region ?_
  refine g_pure (p_assign rfl) rfl ?_
  refine g_nil ?_
  refine g_qt ?_
  refine g_seq ?_
  refine g_region ?_
  refine g_pure (p_assign rfl) rfl ?_
  refine g_nil ?_
  refine g_qt ?_
  refine g_seq ?_
  refine g_seq ?_
  refine g_region ?_
  refine g_pure (p_move rfl) rfl ?_
  refine g_pure (p_len (by rfl) rfl) rfl ?_
  refine g_pure (p_move rfl) rfl ?_
  refine g_nil ?_
  refine g_qt ?_
  refine g_block ?_
  refine g_ownnil (e := 27) (size := 1) ?_
  refine g_loop (fun q : List Int × Option Addr × Nat × St => [(0, .pointer (some ⟨mb, 0, none⟩)), (1, .slice al ls.length cl), (2, .slice bl ms.length cm), (7, .slice q.2.1 q.1.length q.2.2.1), (10, .int .i64 ls.length), (11, .int .i64 q.1.length)])
    (fun q => [OwnSl 27 1 q.2.1 q.1.length q.2.2.1 (q.1.map encI), MkB mb p, Gr p q.2.2.2]) (fun q => q.1.length ≤ ls.length ∧ Up S q.2.2.2 (3 * q.1.length) ∧ DenL q.2.2.2 q.1 (fun i => List.zipWith (fun x y => !(x != y)) ((f i).take q.1.length) ((g i).take q.1.length))) (fun q => ls.length - q.1.length) ([], none, 0, S) ⟨Nat.zero_le _, .refl hw, .nil⟩ (by (repeat (first | exact trivial | refine ⟨by rfl, ?_⟩)); done) (by repeat' (first | exact Cover.nil | exact Take.here | apply Cover.cons | apply Take.there)) ?_
  rintro ⟨out, oa, oc, T⟩ ⟨hk, u, dx⟩
  dsimp only at hk u dx ⊢
  refine g_seq ?_
  refine g_region ?_
  refine g_pure (p_lss rfl rfl) rfl ?_
  refine g_nil ?_
  refine g_qt ?_
  refine g_seq ?_
  refine g_ifd rfl (fun h => ?_) (fun h => ?_)
  · have hkl : out.length < ls.length := by omega
    have hkm : out.length < ms.length := by omega
    obtain ⟨r1, r2, r3⟩ := hr (by omega)
    obtain ⟨s1, s2, s3⟩ := hr2 (by omega)
    have hul := u.len
    refine g_skip ?_
    refine g_qt ?_
    refine g_seq ?_
    refine g_block ?_
    refine g_seq ?_
    refine g_region ?_
    refine g_pure (p_move rfl) rfl ?_
    refine g_pure (p_assign rfl) rfl ?_
    refine g_nil ?_
    refine g_qt ?_
    refine m_begin0 (.fl 0 0 (.fl 1 0 (.fl 2 0 (.fl 3 0 (.fl 4 0 (.fl 5 1 (.fl 6 0 (.fl 7 0 (.fl 8 0 (.fl 9 1 (.ef 10 (.ef 11 (.ef 12 (.ef 13 (.fl 14 0 .done))))))))))))))) (by kernel_rfl) (by kernel_rfl) ?_
    refine m_float0 rfl (fun _ _ => p_move rfl) rfl ?_
    refine m_float0 rfl (fun _ _ => p_move rfl) rfl ?_
    refine m_float0 rfl (fun _ _ => p_move rfl) rfl ?_
    refine m_float0 rfl (fun _ _ => p_move rfl) rfl ?_
    refine m_float0 rfl (fun _ _ => p_indexAddr rfl rfl (by omega) (fun _ => r1)) rfl ?_
    refine m_float rfl (p_load (by rfl) rfl (Has.ro r2) (r3 _ hkl)) rfl ?_
    refine m_float0 rfl (fun _ _ => p_move rfl) rfl ?_
    refine m_float0 rfl (fun _ _ => p_move rfl) rfl ?_
    refine m_float0 rfl (fun _ _ => p_indexAddr rfl rfl (by omega) (fun _ => s1)) rfl ?_
    refine m_float rfl (p_load (by rfl) rfl (Has.ro s2) (s3 _ hkm)) rfl ?_
    refine m_call (Hin := ?hi6) (Hr := ?hr6) (R := ?rr6) rfl wantedN rfl rfl rfl ?hin6 ?hc6 ?hk6
    case hc6 => intro ρ' hρ hR; exact mxor_ok mb p u.wf (by omega) ((d.get hkl).up hw u) ((d'.get hkm).up hw u)
    case hin6 => repeat' (first | exact Cover.nil | exact Take.here | apply Cover.cons | apply Take.there)
    rintro _ _ ⟨l, U, rfl, rfl, u2, d2⟩
    refine ⟨.none (by kernel_rfl), ?_⟩
    refine m_call (Hin := []) (Hr := ?hr7) (R := ?rr7) rfl wantedN rfl rfl rfl ?hin7 ?hc7 ?hk7
    case hin7 => repeat' (first | exact Cover.nil | exact Take.here | apply Cover.cons | apply Take.there)
    case hc7 => intro ρ' hρ hR; exact bnot_ok (d2.i64 u2.wf)
    rintro _ _ ⟨rfl, rfl⟩
    refine ⟨.none (by kernel_rfl), ?_⟩
    refine m_eff rfl (e_bs (xs := [.tmp 25]) rfl rfl rfl (by rfl) (by rfl) rfl (by rfl)) rfl (fun _ _ => ?_)
    rintro ⟨b26, rfl, rfl⟩
    refine ⟨.none (by kernel_rfl), ?_⟩
    refine m_eff rfl (e_appendO (by rfl) (by rfl) rfl rfl (by first | (apply Has.own; (repeat' (first | exact Take.here | apply Take.there)); done) | exact Has.ro (by assumption)) (by rfl) (by rfl) (by repeat' (first | exact Take.here | apply Take.there)) (by omega) (by first | omega | (dsimp only; omega) | (simp <;> omega)) (by omega)) rfl (fun _ _ => ?_)
    rintro ⟨a27, c27, rfl, rfl⟩
    refine ⟨.none (by kernel_rfl), ?_⟩
    refine m_float0 rfl (fun _ _ => p_assign rfl) rfl ?_
    refine m_nil ?_
    refine g_qb ?_
    refine g_qt ?_
    refine g_region ?_
    first | refine g_pure (p_addi rfl rfl (by omega)) rfl ?_ | refine g_pure (p_add rfl rfl) rfl ?_
    refine g_pure (p_move rfl) rfl ?_
    refine g_nil ?_
    refine g_qn ?_
    have e' : out.map encI ++ [Value.int .i64 (nt l)] = (out ++ [nt l]).map encI := by rw [List.map_append]; rfl
    have e2 : out.length + 1 = (out ++ [nt l]).length := by simp
    rw [e']
    refine g_next (out ++ [nt l], a27, c27, U) (by rw [← e2]; exact (by (repeat (first | exact trivial | refine ⟨by rfl, ?_⟩)); done)) (by rw [← e2]; exact (by repeat' (first | exact Cover.nil | exact Take.here | apply Cover.cons | apply Take.there))) ⟨by rw [← e2]; omega, u.trans u2 (by rw [← e2]; omega), ?_⟩ (by rw [← e2]; omega)
    refine ((dx.up u.wf u2).snoc d2.not).congr fun i => ?_
    rw [← e2, xnor_step (by rw [d.len]; exact hkl) (by rw [d'.len]; exact hkm)]
  · have hke : out.length = ls.length := by omega
    have hul := u.len
    refine g_exit ?_
    refine g_qt_exit ?_
    refine g_qn_exit ?_
    refine g_qb_exit ?_
    refine g_qt ?_
    refine g_seq ?_
    refine g_region ?_
    refine g_pure (p_move rfl) rfl ?_
    refine g_pure (p_move rfl) rfl ?_
    refine g_call (Hin := [MkB mb p, Gr p T]) (Hr := ?hr8) (R := ?rr8) rfl rfl rfl ?hin8 ?hc8 ?hk8
    case hin8 => repeat' (first | exact Cover.nil | exact Take.here | apply Cover.cons | apply Take.there)
    case hc8 => intro ρ' hρ hR; exact all_ok mb p u.wf (by omega) (RSl.of_own (Take.ro (A := OwnSl 27 1 oa out.length oc (out.map encI)) (by repeat' (first | exact Take.here | apply Take.there)) hR)) dx
    rintro _ _ ⟨l, U, rfl, rfl, u2, d2⟩
    refine g_pure (p_assign rfl) rfl ?_
    refine g_nil ?_
    refine g_qt ?_
    refine g_ret ?_
    refine g_post (rs := [.tmp 6]) rfl (.tmp rfl .nil) ⟨l, U, rfl, rfl, u.trans u2 (by omega), d2.congr fun i => ?_⟩ (by repeat' (first | exact Cover.nil | exact Take.here | apply Cover.cons | apply Take.there))
    unfold equalF
    rw [List.take_of_length_le (by rw [d.len]; omega), List.take_of_length_le (by rw [d'.len]; omega)]

theorem below_ok (mb p : Nat) (hw : WF S) (hn : ls.length ≤ 100000) (hl : S.length + 9 * ls.length < 131072) (hls : RSl ρ 1 al ls.length (ls.map encI)) (hms : RSl ρ 1 bl ms.length (ms.map encI)) (he : ls.length = ms.length) (d : DenL S ls f) (d' : DenL S ms g) :
    Con Try.prog ρ 71 #[.pointer (some ⟨mb, 0, none⟩), .slice al ls.length cl, .slice bl ms.length cm] [MkB mb p, Gr p S]
    (fun v H => ∃ l T, v = .int .i64 l ∧ H = [MkB mb p, Gr p T] ∧ Up S T (9 * ls.length) ∧ Den T l (fun i => belowF (f i) (g i))) := by
  refine con_intro Try.func71 Try.call71 rfl Try.ntmps71 rfl (L := [(0, _), (1, _), (2, _)]) rfl fun w hh => ?_
  refine g_seq ?_
  refine g_region ?_
  refine g_pure (p_assign rfl) rfl ?_
  refine g_nil ?_
  refine g_qt ?_
  refine g_seq ?_
  refine g_region ?_
  refine g_pure (p_move rfl) rfl ?_
  refine g_pure (p_move rfl) rfl ?_
  refine g_pure (p_move rfl) rfl ?_
  refine g_call (Hin := []) (Hr := ?hr9) (R := ?rr9) rfl rfl rfl ?hin9 ?hc9 ?hk9
  case hin9 => repeat' (first | exact Cover.nil | exact Take.here | apply Cover.cons | apply Take.there)
  case hc9 => intro ρ' hρ hR; exact bnots_ok (i64_of hw d') (by omega) (hms.mono hρ)
  rintro _ _ ⟨a2, c2, rfl, rfl⟩
  have e : ms.length = (ms.map nt).length := (List.length_map _).symm
  rw [show (Value.slice a2 ms.length c2) = .slice a2 (ms.map nt).length c2 by rw [← e], show OwnSl 27 1 a2 ms.length c2 ((ms.map nt).map encI) = OwnSl 27 1 a2 (ms.map nt).length c2 ((ms.map nt).map encI) by rw [← e]]
  refine g_call (Hin := [MkB mb p, Gr p S]) (Hr := ?hr10) (R := ?rr10) rfl rfl rfl ?hin10 ?hc10 ?hk10
  case hin10 => repeat' (first | exact Cover.nil | exact Take.here | apply Cover.cons | apply Take.there)
  case hc10 => intro ρ' hρ hR; exact sum_ok mb p hw (by omega) (hls.mono hρ) (RSl.of_own (Take.ro (A := OwnSl 27 1 a2 (ms.map nt).length c2 ((ms.map nt).map encI)) (by repeat' (first | exact Take.here | apply Take.there)) hR)) (by omega) (Den.one hw) d d'.not
  rintro _ _ ⟨a3, c3, out, co, U, rfl, rfl, h2, u2, _, d2⟩
  refine g_pure (p_move rfl) rfl ?_
  refine g_pure (p_extract rfl rfl) rfl ?_
  refine g_pure (p_extract rfl rfl) rfl ?_
  refine g_pure (p_assign rfl) rfl ?_
  refine g_pure (p_assign rfl) rfl ?_
  refine g_nil ?_
  refine g_qt ?_
  refine g_seq ?_
  refine g_region ?_
  refine g_pure (p_move rfl) rfl ?_
  refine g_call (Hin := []) (Hr := ?hr11) (R := ?rr11) rfl rfl rfl ?hin11 ?hc11 ?hk11
  case hin11 => repeat' (first | exact Cover.nil | exact Take.here | apply Cover.cons | apply Take.there)
  case hc11 => intro ρ' hρ hR; exact bnot_ok (d2.i64 u2.wf)
  rintro _ _ ⟨rfl, rfl⟩
  refine g_pure (p_assign rfl) rfl ?_
  refine g_nil ?_
  refine g_qt ?_
  refine g_ret ?_
  exact g_post (rs := [.tmp 6]) rfl (.tmp rfl .nil) ⟨nt co, U, rfl, rfl, u2, d2.not⟩ (by repeat' (first | exact Cover.nil | exact Take.here | apply Cover.cons | apply Take.there))

theorem clone_n {ρ : Nat → Obj → Prop} {al : Option Addr} {cl : Nat} {ls : List Int} {n : Nat} (h1 : ls.length = n) (hl : RSl ρ 1 al n (ls.map encI)) (hlen : n ≤ 10000000000) :
    Con Try.prog ρ 133 #[.slice al n cl] [] (fun v H => ∃ a c, v = .slice a n c ∧ H = [OwnSl 27 1 a n c (ls.map encI)]) := by
  subst h1; exact clone_ok al cl ls hl hlen

theorem below_n (mb p : Nat) (hw : WF S) {n : Nat} (h1 : ls.length = n) (h2 : ms.length = n) (hn : n ≤ 100000) (hl : S.length + 9 * n < 131072) (hls : RSl ρ 1 al n (ls.map encI)) (hms : RSl ρ 1 bl n (ms.map encI)) (d : DenL S ls f) (d' : DenL S ms g) :
    Con Try.prog ρ 71 #[.pointer (some ⟨mb, 0, none⟩), .slice al n cl, .slice bl n cm] [MkB mb p, Gr p S]
    (fun v H => ∃ l T, v = .int .i64 l ∧ H = [MkB mb p, Gr p T] ∧ Up S T (9 * n) ∧ Den T l (fun i => belowF (f i) (g i))) := by
  subst h1
  have := below_ok (ρ := ρ) (cl := cl) (cm := cm) mb p hw hn hl hls (by rw [h2]; exact hms) h2.symm d d'
  rwa [h2] at this

theorem less_n (mb p : Nat) (hw : WF S) {N : Nat} (h1 : ls.length = N) (h2 : ms.length = N) (h0 : 0 < N) (hn : N ≤ 100000) (hl : S.length + 9 * N < 131072) (hls : RSl ρ 1 al N (ls.map encI)) (hms : RSl ρ 1 bl N (ms.map encI)) (d : DenL S ls f) (d' : DenL S ms g) :
    Con Try.prog ρ 121 #[.pointer (some ⟨mb, 0, none⟩), .slice al N cl, .slice bl N cm] [MkB mb p, Gr p S]
    (fun v H => ∃ l T, v = .int .i64 l ∧ H = [MkB mb p, Gr p T] ∧ Up S T (9 * N) ∧ Den T l (fun i => lessF (f i) (g i))) := by
  obtain ⟨n, rfl⟩ : ∃ n : Nat, N = n + 1 := ⟨N - 1, by omega⟩
  refine con_intro Try.func121 Try.call121 rfl Try.ntmps121 rfl (L := [(0, _), (1, _), (2, _)]) rfl fun w hh => ?_
  refine g_seq ?_
  refine g_region ?_
  refine g_pure (p_assign rfl) rfl ?_
  refine g_nil ?_
  refine g_qt ?_
  refine g_seq ?_
  refine g_region ?_
  refine g_pure (p_move rfl) rfl ?_
  refine g_call (Hin := []) (Hr := ?hr12) (R := ?rr12) rfl rfl rfl ?hin12 ?hc12 ?hk12
  case hin12 => repeat' (first | exact Cover.nil | exact Take.here | apply Cover.cons | apply Take.there)
  case hc12 => intro ρ' hρ hR; exact clone_n h1 (hls.mono hρ) (by omega)
  rintro _ _ ⟨xa, xc, rfl, rfl⟩
  refine g_pure (p_move rfl) rfl ?_
  refine g_call (Hin := []) (Hr := ?hr13) (R := ?rr13) rfl rfl rfl ?hin13 ?hc13 ?hk13
  case hin13 => repeat' (first | exact Cover.nil | exact Take.here | apply Cover.cons | apply Take.there)
  case hc13 => intro ρ' hρ hR; exact clone_n h2 (hms.mono hρ) (by omega)
  rintro _ _ ⟨ya, yc, rfl, rfl⟩
  refine g_pure (p_assign rfl) rfl ?_
  refine g_pure (p_assign rfl) rfl ?_
  refine g_nil ?_
  refine g_qt ?_
  refine g_seq ?_
  refine g_region ?_
  refine g_pure (p_move rfl) rfl ?_
  refine g_pure (p_len (by rfl) rfl) rfl ?_
  first | refine g_pure (p_subi rfl rfl (by omega)) rfl ?_ | refine g_pure (p_sub rfl rfl) rfl ?_
  refine g_pure (p_assign rfl) rfl ?_
  refine g_nil ?_
  refine g_qt ?_
  refine g_seq ?_
  refine g_own (e := 27) (a1 := xa) (k := n + 1) (cap := xc) (xs := ls.map encI) (by repeat' (first | exact Take.here | apply Take.there)) (fun _ h2 _ _ => absurd h2 (by omega)) ?_
  rintro gx curx rfl x1 x2 x3 x4 x5
  refine g_own (e := 27) (a1 := ya) (k := n + 1) (cap := yc) (xs := ms.map encI) (by repeat' (first | exact Take.here | apply Take.there)) (fun _ h2 _ _ => absurd h2 (by omega)) ?_
  rintro gy cury rfl y1 y2 y3 y4 y5
  have hi : (((n + 1 : Nat) : Int) - 1).toNat = n := by omega
  have hx : curx[0 + (((n + 1 : Nat) : Int) - 1).toNat * 1]? = some (.int .i64 (ls[n]'(by omega))) := own_at x4 (by rw [hi]) (by rw [List.getElem?_map, List.getElem?_eq_getElem (by omega)]; rfl)
  have hy : cury[0 + (((n + 1 : Nat) : Int) - 1).toNat * 1]? = some (.int .i64 (ms[n]'(by omega))) := own_at y4 (by rw [hi]) (by rw [List.getElem?_map, List.getElem?_eq_getElem (by omega)]; rfl)
  refine m_begin0 (.fl 0 0 (.fl 1 0 (.fl 2 0 (.fl 3 0 (.fl 4 0 (.fl 5 0 (.fl 6 0 (.fl 7 1 (.fl 9 0 (.fl 10 0 (.fl 11 0 (.fl 12 1 (.ef 8 (.ef 13 (.fl 14 0 (.ef 15 (.fl 16 0 (.ef 17 .done)))))))))))))))))) (by kernel_rfl) (by kernel_rfl) ?_
  refine m_float0 rfl (fun _ _ => p_move rfl) rfl ?_
  refine m_float0 rfl (fun _ _ => p_move rfl) rfl ?_
  refine m_float0 rfl (fun _ _ => p_move rfl) rfl ?_
  refine m_float0 rfl (fun _ _ => p_move rfl) rfl ?_
  refine m_float0 rfl (fun _ _ => p_move rfl) rfl ?_
  refine m_float0 rfl (fun _ _ => p_move rfl) rfl ?_
  refine m_float0 rfl (fun _ _ => p_indexAddr rfl rfl (by omega) (fun _ => rfl)) rfl ?_
  refine m_float rfl (p_load (by rfl) rfl (Has.own (by repeat' (first | exact Take.here | apply Take.there))) hx) rfl ?_
  refine m_float0 rfl (fun _ _ => p_move rfl) rfl ?_
  refine m_float0 rfl (fun _ _ => p_move rfl) rfl ?_
  refine m_float0 rfl (fun _ _ => p_indexAddr rfl rfl (by omega) (fun _ => rfl)) rfl ?_
  refine m_float rfl (p_load (by rfl) rfl (Has.own (by repeat' (first | exact Take.here | apply Take.there))) hy) rfl ?_
  refine m_call (Hin := []) (Hr := ?hr14) (R := ?rr14) rfl wantedN rfl rfl rfl ?hin14 ?hc14 ?hk14
  case hin14 => repeat' (first | exact Cover.nil | exact Take.here | apply Cover.cons | apply Take.there)
  case hc14 => intro ρ' hρ hR; exact bnot_ok (i64_of hw d _ (List.getElem_mem _))
  rintro _ _ ⟨rfl, rfl⟩
  refine ⟨.some (by repeat' (first | exact Cover.nil | exact Take.here | apply Cover.cons | apply Take.there)), ?_⟩
  refine m_call (Hin := []) (Hr := ?hr15) (R := ?rr15) rfl wantedN rfl rfl rfl ?hin15 ?hc15 ?hk15
  case hin15 => repeat' (first | exact Cover.nil | exact Take.here | apply Cover.cons | apply Take.there)
  case hc15 => intro ρ' hρ hR; exact bnot_ok (i64_of hw d' _ (List.getElem_mem _))
  rintro _ _ ⟨rfl, rfl⟩
  refine ⟨.none (by kernel_rfl), ?_⟩
  refine m_float0 rfl (fun _ _ => p_indexAddr rfl rfl (by omega) (fun _ => rfl)) rfl ?_
  refine m_eff0 rfl (e_store1 (by rfl) rfl rfl rfl (by repeat' (first | exact Take.here | apply Take.there)) (by show 0 + (((n + 1 : Nat) : Int) - 1).toNat * 1 < _; omega)) (fun _ _ => ?_)
  rintro rfl
  refine ⟨.none (by kernel_rfl), ?_⟩
  refine m_float0 rfl (fun _ _ => p_indexAddr rfl rfl (by omega) (fun _ => rfl)) rfl ?_
  refine m_eff0 rfl (e_store1 (by rfl) rfl rfl rfl (by repeat' (first | exact Take.here | apply Take.there)) (by show 0 + (((n + 1 : Nat) : Int) - 1).toNat * 1 < _; omega)) (fun _ _ => ?_)
  rintro rfl
  refine ⟨.none (by kernel_rfl), ?_⟩
  refine m_nil ?_
  refine g_qt ?_
  refine g_seq ?_
  refine g_region ?_
  refine g_pure (p_move rfl) rfl ?_
  refine g_pure (p_move rfl) rfl ?_
  refine g_pure (p_move rfl) rfl ?_
  have dx := d.set (d.get (show n < ls.length by omega)).not n
  have dy := d'.set (d'.get (show n < ms.length by omega)).not n
  refine g_fold (e := 27) (g := gx) (k := n + 1) (cap := xc) (size := 1) (xs := (ls.set n (nt (ls[n]'(by omega)))).map encI) (by repeat' (first | exact Take.here | apply Take.there)) x1 x2 (by rw [List.length_set]; exact x3) (by show List.take _ (List.set _ (0 + (((n + 1 : Nat) : Int) - 1).toNat * 1) _) = _; rw [hi]; exact set_own x4) ?_
  refine g_fold (e := 27) (g := gy) (k := n + 1) (cap := yc) (size := 1) (xs := (ms.set n (nt (ms[n]'(by omega)))).map encI) (by repeat' (first | exact Take.here | apply Take.there)) y1 y2 (by rw [List.length_set]; exact y3) (by show List.take _ (List.set _ (0 + (((n + 1 : Nat) : Int) - 1).toNat * 1) _) = _; rw [hi]; exact set_own y4) ?_
  have ex : (ls.set n (nt (ls[n]'(by omega)))).length = n + 1 := by rw [List.length_set]; exact h1
  have ey : (ms.set n (nt (ms[n]'(by omega)))).length = n + 1 := by rw [List.length_set]; exact h2
  refine g_call (Hin := [MkB mb p, Gr p S]) (Hr := ?hr16) (R := ?rr16) rfl rfl rfl ?hin16 ?hc16 ?hk16
  case hin16 => repeat' (first | exact Cover.nil | exact Take.here | apply Cover.cons | apply Take.there)
  case hc16 => intro ρ' hρ hR; exact below_n mb p hw ex ey (by omega) (by omega) (RSl.of_own (Take.ro (A := OwnSl 27 1 (some ⟨gx, 0, none⟩) (n + 1) xc ((ls.set n (nt (ls[n]'(by omega)))).map encI)) (by repeat' (first | exact Take.here | apply Take.there)) hR)) (RSl.of_own (Take.ro (A := OwnSl 27 1 (some ⟨gy, 0, none⟩) (n + 1) yc ((ms.set n (nt (ms[n]'(by omega)))).map encI)) (by repeat' (first | exact Take.here | apply Take.there)) hR)) dx dy
  rintro _ _ ⟨l, T, rfl, rfl, u, d2⟩
  refine g_pure (p_assign rfl) rfl ?_
  refine g_nil ?_
  refine g_qt ?_
  refine g_ret ?_
  refine g_post (rs := [.tmp 6]) rfl (.tmp rfl .nil) ⟨l, T, rfl, rfl, u, d2.congr fun i => ?_⟩ (by repeat' (first | exact Cover.nil | exact Take.here | apply Cover.cons | apply Take.there))
  unfold lessF flipF
  rw [d.len, show ls.length - 1 = n by omega]
end Go.Proofs.Ytkebblmmgcgjkaa
/- Chapter 38: products, quotients. Conditions: none. -/
namespace Go.Z.Bit
set_option maxRecDepth 8000
set_option linter.unusedVariables false
set_option linter.unusedSimpArgs false
set_option linter.unusedSectionVars false
open Go Go.Z Go.Z.Aig
def rowP (x : Bool) (b : List Bool) (i k n : Nat) : List Bool := List.replicate i false ++ (b.take (k - i)).map (x && ·) ++ List.replicate (n - k) false
theorem rowP_start (x : Bool) (b : List Bool) {i n : Nat} (h : i ≤ n) : rowP x b i i n = List.replicate n false := by
  unfold rowP
  rw [Nat.sub_self, List.take_zero, List.map_nil, List.append_nil, List.replicate_append_replicate]
  congr 1; omega
theorem rowP_end (x : Bool) (b : List Bool) (i n : Nat) : rowP x b i n n = rowF x b i n := by
  unfold rowP rowF
  rw [Nat.sub_self, List.replicate_zero, List.append_nil]
theorem rowP_step (x : Bool) {b : List Bool} {i k n : Nat} (hi : i ≤ k) (hk : k < n) (hb : b.length = n) : (rowP x b i k n).set k (x && b.getD (k - i) false) = rowP x b i (k + 1) n := by
  unfold rowP
  have hl : (List.replicate i false ++ (b.take (k - i)).map (x && ·)).length = k := by simp; omega
  rw [List.set_append_right _ _ (by omega), hl, Nat.sub_self, show k + 1 - i = (k - i) + 1 by omega, map_snoc (by omega), show n - k = (n - (k + 1)) + 1 by omega, List.replicate_succ, List.set_cons_zero, List.append_assoc, List.append_assoc, List.append_assoc]
  rfl
theorem quo_step {m : Nat} (qs : List Bool) (c : Bool) : (List.replicate (m + 1) false ++ qs).set m c = List.replicate m false ++ (c :: qs) := by
  rw [List.replicate_succ', List.append_assoc, List.set_append_right _ _ (by simp)]
  simp
theorem drop_getD {l : List Bool} {m : Nat} (h : m < l.length) : l.drop m = l.getD m false :: l.drop (m + 1) := by
  rw [List.drop_eq_getElem_cons h, List.getD_eq_getElem?_getD, List.getElem?_eq_getElem h]; rfl
theorem divF_step {b l : List Bool} {m : Nat} (h : m < l.length) : divF b (l.drop m) = ((addF (l.getD m false :: (divF b (l.drop (m + 1))).2.take b.length) ((b ++ [false]).map (!·)) true).2 :: (divF b (l.drop (m + 1))).1,
    muxF (addF (l.getD m false :: (divF b (l.drop (m + 1))).2.take b.length) ((b ++ [false]).map (!·)) true).2 (addF (l.getD m false :: (divF b (l.drop (m + 1))).2.take b.length) ((b ++ [false]).map (!·)) true).1 (l.getD m false :: (divF b (l.drop (m + 1))).2.take b.length)) := by
  have hl := (divF_len b (l.drop (m + 1))).2
  rw [drop_getD h, divF]
  rw [muxF_eq _ (addF_len _ (by simp [hl]))]
end Go.Z.Bit
namespace Go.Proofs.Ytkebblmmgcgjkaa
set_option maxRecDepth 8000
set_option linter.unusedVariables false
set_option linter.unusedSimpArgs false
set_option linter.unusedSectionVars false
open Go Go.Z Go.Z.Aig Go.Z.Bit

variable {ρ : Nat → Obj → Prop} {S : St} {a b c : Int} {fa fb fc : List Bool → Bool}
variable {al bl : Option Addr} {cl cm : Nat} {ls ms : List Int} {f g : List Bool → List Bool}
theorem product_ok (mb p : Nat) (hw : WF S) (hn : ls.length ≤ 64) (hl : S.length + ls.length * (10 * ls.length) < 131072) (hls : RSl ρ 1 al ls.length (ls.map encI)) (hms : RSl ρ 1 bl ms.length (ms.map encI)) (he : ls.length = ms.length) (d : DenL S ls f) (d' : DenL S ms g) :
    Con Try.prog ρ 98 #[.pointer (some ⟨mb, 0, none⟩), .slice al ls.length cl, .slice bl ms.length cm] [MkB mb p, Gr p S]
    (fun v H => ∃ a2 c2 out T, v = .slice a2 out.length c2 ∧ H = [OwnSl 27 1 a2 out.length c2 (out.map encI), MkB mb p, Gr p T] ∧ out.length = ls.length ∧ Up S T (ls.length * (10 * ls.length)) ∧ DenL T out (fun i => mulF (f i) (g i) ls.length ls.length)) := by
  obtain ⟨b1, o1, cs1, T1, fz1, hr⟩ := lrd hls
  obtain ⟨b2, o2, cs2, T2, fz2, hr2⟩ := lrd hms
  obtain ⟨n, hnl⟩ : ∃ n, n = ls.length := ⟨_, rfl⟩
  rw [← hnl] at hl hn ⊢
  have hz : ((bitsR n 0).map lit1).length = n := by rw [List.length_map, bitsR_len]
  have hzd : ∀ T : St, WF T → DenL T ((bitsR n 0).map lit1) (fun _ => List.replicate n false) := fun T h => (DenL.const h _).congr fun _ => bitsR_zero n
  refine con_intro Try.func98 Try.call98 rfl Try.ntmps98 rfl (L := [(0, _), (1, _), (2, _)]) rfl fun w hh => ?_
  refine g_seq ?_
  refine g_region ?_
  refine g_pure (p_assign rfl) rfl ?_
  refine g_nil ?_
  refine g_qt ?_
  refine g_seq ?_
  refine g_region ?_
  refine g_pure (p_move rfl) rfl ?_
  refine g_pure (p_len (by rfl) rfl) rfl ?_
  refine g_call (Hin := []) (Hr := ?hr1) (R := ?rr1) rfl rfl rfl ?hin1 ?hc1 ?hk1
  case hin1 => repeat' (first | exact Cover.nil | exact Take.here | apply Cover.cons | apply Take.there)
  case hc1 => intro ρ' hρ hR; exact constant_ok n 0 hn (by unfold I64; omega)
  rintro _ _ ⟨ka, kc, rfl, rfl⟩
  refine g_pure (p_assign rfl) rfl ?_
  refine g_nil ?_
  refine g_qt ?_
  refine g_seq ?_
  refine g_seq ?_
  refine g_region ?_
  refine g_pure (p_move rfl) rfl ?_
  refine g_pure (p_len (by rfl) rfl) rfl ?_
  refine g_pure (p_move rfl) rfl ?_
  refine g_nil ?_
  refine g_qt ?_
  refine g_block ?_
  refine g_loop (fun q : Nat × List Int × Option Addr × Nat × St => [(0, .pointer (some ⟨mb, 0, none⟩)), (1, .slice al n cl), (2, .slice bl ms.length cm), (7, .slice q.2.2.1 n q.2.2.2.1), (15, .int .i64 n), (16, .int .i64 q.1)])
    (fun q => [OwnSl 27 1 q.2.2.1 n q.2.2.2.1 (q.2.1.map encI), MkB mb p, Gr p q.2.2.2.2]) (fun q => q.1 ≤ n ∧ q.2.1.length = n ∧ Up S q.2.2.2.2 (q.1 * (10 * n)) ∧ DenL q.2.2.2.2 q.2.1 (fun i => mulF (f i) (g i) n q.1)) (fun q => n - q.1) (0, (bitsR n 0).map lit1, ka, kc, S) ⟨Nat.zero_le _, hz, by dsimp only; rw [Nat.zero_mul]; exact .refl hw, hzd S hw⟩ (by (repeat (first | exact trivial | refine ⟨by rfl, ?_⟩)); done) (by repeat' (first | exact Cover.nil | exact Take.here | apply Cover.cons | apply Take.there)) ?_
  rintro ⟨i, out, oa, oc, T⟩ ⟨hi, hol, u, dx⟩
  dsimp only at hi hol u dx ⊢
  refine g_seq ?_
  refine g_region ?_
  refine g_pure (p_lss rfl rfl) rfl ?_
  refine g_nil ?_
  refine g_qt ?_
  refine g_seq ?_
  refine g_ifd rfl (fun h => ?_) (fun h => ?_)
  · have hil : i < n := by omega
    have hkl : i < ls.length := by omega
    obtain ⟨r1, r2, r3⟩ := hr (by omega)
    obtain ⟨s1, s2, s3⟩ := hr2 (by omega)
    have hul := u.len
    have hmul : (i + 1) * (10 * n) ≤ n * (10 * n) := Nat.mul_le_mul_right _ hil
    rw [Nat.add_mul, Nat.one_mul] at hmul
    refine g_skip ?_
    refine g_qt ?_
    refine g_seq ?_
    refine g_block ?_
    refine g_seq ?_
    refine g_region ?_
    refine g_pure (p_move rfl) rfl ?_
    refine g_pure (p_assign rfl) rfl ?_
    refine g_nil ?_
    refine g_qt ?_
    refine g_seq ?_
    refine g_region ?_
    refine g_pure (p_move rfl) rfl ?_
    refine g_pure (p_len (by rfl) rfl) rfl ?_
    refine g_call (Hin := []) (Hr := ?hr2) (R := ?rr2) rfl rfl rfl ?hin2 ?hc2 ?hk2
    case hin2 => repeat' (first | exact Cover.nil | exact Take.here | apply Cover.cons | apply Take.there)
    case hc2 => intro ρ' hρ hR; exact constant_ok n 0 hn (by unfold I64; omega)
    rintro _ _ ⟨ra, rc, rfl, rfl⟩
    refine g_pure (p_assign rfl) rfl ?_
    refine g_nil ?_
    refine g_qt ?_
    refine g_seq ?_
    refine g_seq ?_
    refine g_region ?_
    refine g_pure (p_move rfl) rfl ?_
    refine g_pure (p_assign rfl) rfl ?_
    refine g_nil ?_
    refine g_qt ?_
    refine g_block ?_
    refine g_loop (fun q : Nat × List Int × St => [(0, .pointer (some ⟨mb, 0, none⟩)), (1, .slice al n cl), (2, .slice bl ms.length cm), (7, .slice oa n oc), (8, .int .i64 i), (9, .slice ra n rc), (10, .int .i64 q.1), (15, .int .i64 n), (16, .int .i64 i)])
      (fun q => [OwnSl 27 1 ra n rc (q.2.1.map encI), OwnSl 27 1 oa n oc (out.map encI), MkB mb p, Gr p q.2.2]) (fun q => i ≤ q.1 ∧ q.1 ≤ n ∧ q.2.1.length = n ∧ Up T q.2.2 (q.1 - i) ∧ DenL q.2.2 q.2.1 (fun j => rowP ((f j).getD i false) (g j) i q.1 n)) (fun q => n - q.1) (i, (bitsR n 0).map lit1, T) ⟨Nat.le_refl _, hi, hz, by dsimp only; rw [Nat.sub_self]; exact .refl u.wf, (hzd T u.wf).congr fun j => (rowP_start _ _ hi).symm⟩ (by (repeat (first | exact trivial | refine ⟨by rfl, ?_⟩)); done) (by repeat' (first | exact Cover.nil | exact Take.here | apply Cover.cons | apply Take.there)) ?_
    rintro ⟨k, row, U⟩ ⟨hik, hk, hrl, u1, d1⟩
    dsimp only at hik hk hrl u1 d1 ⊢
    have hul1 := u1.len
    refine g_seq ?_
    refine g_seq ?_
    refine g_region ?_
    refine g_pure (p_move rfl) rfl ?_
    refine g_pure (p_move rfl) rfl ?_
    refine g_pure (p_len (by rfl) rfl) rfl ?_
    refine g_pure (p_lss rfl rfl) rfl ?_
    refine g_nil ?_
    refine g_qt ?_
    refine g_ifd rfl (fun h2 => ?_) (fun h2 => ?_)
    · have hki : ((k : Int) - (i : Int)).toNat = k - i := by omega
      have hb : cs2[o2 + ((k : Int) - (i : Int)).toNat * 1]? = some (.int .i64 (ms[k - i]'(by omega))) := by rw [hki]; exact s3 _ _
      refine g_skip ?_
      refine g_qt ?_
      refine g_seq ?_
      refine g_block ?_
      refine g_own (e := 27) (a1 := ra) (k := n) (cap := rc) (xs := row.map encI) (by repeat' (first | exact Take.here | apply Take.there)) (fun _ h2 _ _ => absurd h2 (by omega)) ?_
      rintro gx curx rfl x1 x2 x3 x4 x5
      refine m_begin0 (.fl 0 0 (.fl 1 0 (.fl 2 0 (.fl 3 0 (.fl 4 0 (.fl 5 0 (.fl 6 1 (.fl 7 0 (.fl 8 0 (.fl 9 0 (.fl 10 0 (.fl 11 0 (.fl 12 1 (.ef 13 (.fl 14 0 (.ef 15 .done)))))))))))))))) (by kernel_rfl) (by kernel_rfl) ?_
      refine m_float0 rfl (fun _ _ => p_move rfl) rfl ?_
      refine m_float0 rfl (fun _ _ => p_move rfl) rfl ?_
      refine m_float0 rfl (fun _ _ => p_move rfl) rfl ?_
      refine m_float0 rfl (fun _ _ => p_move rfl) rfl ?_
      refine m_float0 rfl (fun _ _ => p_move rfl) rfl ?_
      refine m_float0 rfl (fun _ _ => p_indexAddr rfl rfl (by omega) (fun _ => r1)) rfl ?_
      refine m_float rfl (p_load (by rfl) rfl (Has.ro r2) (r3 _ hkl)) rfl ?_
      refine m_float0 rfl (fun _ _ => p_move rfl) rfl ?_
      refine m_float0 rfl (fun _ _ => p_move rfl) rfl ?_
      refine m_float0 rfl (fun _ _ => p_move rfl) rfl ?_
      first | refine m_float0 rfl (fun _ _ => p_subi rfl rfl (by omega)) rfl ?_ | refine m_float0 rfl (fun _ _ => p_sub rfl rfl) rfl ?_
      refine m_float0 rfl (fun _ _ => p_indexAddr rfl rfl (by omega) (fun _ => s1)) rfl ?_
      refine m_float rfl (p_load (by rfl) rfl (Has.ro s2) hb) rfl ?_
      refine m_call (Hin := ?hi3) (Hr := ?hr3) (R := ?rr3) rfl wantedN rfl rfl rfl ?hin3 ?hc3 ?hk3
      case hc3 => intro ρ' hρ hR; exact mand_ok mb p u1.wf (by omega) ((d.get hkl).up hw (u.trans u1 (Nat.le_refl _))) ((d'.get (show k - i < ms.length by omega)).up hw (u.trans u1 (Nat.le_refl _)))
      case hin3 => repeat' (first | exact Cover.nil | exact Take.here | apply Cover.cons | apply Take.there)
      rintro _ _ ⟨l, V, rfl, rfl, u2, d2⟩
      refine ⟨.none (by kernel_rfl), ?_⟩
      refine m_float0 rfl (fun _ _ => p_indexAddr rfl rfl (by omega) (fun _ => rfl)) rfl ?_
      refine m_eff0 rfl (e_store1 (by rfl) rfl rfl rfl (by repeat' (first | exact Take.here | apply Take.there)) (by show 0 + (k : Int).toNat * 1 < _; omega)) (fun _ _ => ?_)
      rintro rfl
      refine ⟨.none (by kernel_rfl), ?_⟩
      refine m_nil ?_
      refine g_qb ?_
      refine g_qt ?_
      refine g_region ?_
      refine g_pure (p_move rfl) rfl ?_
      first | refine g_pure (p_addi rfl rfl (by omega)) rfl ?_ | refine g_pure (p_add rfl rfl) rfl ?_
      refine g_pure (p_assign rfl) rfl ?_
      refine g_nil ?_
      refine g_qn ?_
      refine g_fold (e := 27) (g := gx) (k := n) (cap := rc) (size := 1) (xs := (row.set k l).map encI) (by repeat' (first | exact Take.here | apply Take.there)) x1 x2 (by rw [List.length_set]; exact x3) (set_own x4) ?_
      exact g_next (k + 1, row.set k l, V) (by (repeat (first | exact trivial | refine ⟨by rfl, ?_⟩)); done) (by repeat' (first | exact Cover.nil | exact Take.here | apply Cover.cons | apply Take.there)) ⟨by dsimp only; omega, by dsimp only; omega, by rw [List.length_set]; exact hrl, u1.trans u2 (by dsimp only; omega), ((d1.up u1.wf u2).set d2 k).congr fun j => rowP_step _ hik (by omega) (by rw [d'.len]; omega)⟩ (by dsimp only; omega)
    · have hkn : k = n := by omega
      subst hkn
      refine g_exit ?_
      refine g_qt_exit ?_
      refine g_qn_exit ?_
      refine g_qb_exit ?_
      refine g_qt ?_
      refine g_region ?_
      refine g_pure (p_move rfl) rfl ?_
      refine g_pure (p_move rfl) rfl ?_
      refine g_pure (p_move rfl) rfl ?_
      rw [show (Value.slice oa k oc) = .slice oa out.length oc by rw [hol], show (Value.slice ra k rc) = .slice ra row.length rc by rw [hrl], show OwnSl 27 1 oa k oc (out.map encI) = OwnSl 27 1 oa out.length oc (out.map encI) by rw [hol], show OwnSl 27 1 ra k rc (row.map encI) = OwnSl 27 1 ra row.length rc (row.map encI) by rw [hrl]]
      refine g_call (Hin := [MkB mb p, Gr p U]) (Hr := ?hr4) (R := ?rr4) rfl rfl rfl ?hin4 ?hc4 ?hk4
      case hin4 => repeat' (first | exact Cover.nil | exact Take.here | apply Cover.cons | apply Take.there)
      case hc4 => intro ρ' hρ hR; exact sum_ok mb p u1.wf (by omega) (RSl.of_own (Take.ro (A := OwnSl 27 1 oa out.length oc (out.map encI)) (by repeat' (first | exact Take.here | apply Take.there)) hR)) (RSl.of_own (Take.ro (A := OwnSl 27 1 ra row.length rc (row.map encI)) (by repeat' (first | exact Take.here | apply Take.there)) hR)) (by omega) (Den.zero u1.wf) (dx.up u.wf u1) d1
      rintro _ _ ⟨a2, c2, out2, co, V, rfl, rfl, h3, u2, d2, _⟩
      refine g_pure (p_move rfl) rfl ?_
      refine g_pure (p_extract rfl rfl) rfl ?_
      refine g_pure (p_extract rfl rfl) rfl ?_
      refine g_pure (p_assign rfl) rfl ?_
      refine g_nil ?_
      refine g_qb ?_
      refine g_qt ?_
      refine g_region ?_
      first | refine g_pure (p_addi rfl rfl (by omega)) rfl ?_ | refine g_pure (p_add rfl rfl) rfl ?_
      refine g_pure (p_move rfl) rfl ?_
      refine g_nil ?_
      refine g_qn ?_
      have h4 : out2.length = k := by omega
      refine g_next (i + 1, out2, a2, c2, V) (by rw [← h4]; exact (by (repeat (first | exact trivial | refine ⟨by rfl, ?_⟩)); done)) (by rw [← h4]; exact (by repeat' (first | exact Cover.nil | exact Take.here | apply Cover.cons | apply Take.there))) ⟨by dsimp only; omega, h4, ?_, d2.congr fun j => ?_⟩ (by dsimp only; omega)
      · refine (u.trans u1 (Nat.le_refl _)).trans u2 ?_
        dsimp only
        rw [Nat.add_mul, Nat.one_mul]; omega
      · rw [rowP_end]; rfl
  · have hke : i = n := by omega
    subst hke
    refine g_exit ?_
    refine g_qt_exit ?_
    refine g_qn_exit ?_
    refine g_qb_exit ?_
    refine g_qt ?_
    refine g_seq ?_
    refine g_region ?_
    refine g_pure (p_move rfl) rfl ?_
    refine g_pure (p_assign rfl) rfl ?_
    refine g_nil ?_
    refine g_qt ?_
    refine g_ret ?_
    exact g_post (rs := [.tmp 6]) rfl (.tmp rfl .nil) ⟨oa, oc, out, T, by rw [hol]; rfl, by rw [hol], hol, u, dx⟩ (by repeat' (first | exact Cover.nil | exact Take.here | apply Cover.cons | apply Take.there))

theorem sub_own {cur : List Value} {ls : List Int} {N n : Nat} (h : cur.take (N * 1) = ls.map encI) (hl : ls.length = N) (hn : n ≤ N) : sub cur 0 (n * 1) = some ((ls.take n).map encI) := by
  have h1 := congrArg List.length h
  rw [List.length_take, List.length_map] at h1
  unfold sub
  rw [if_pos (by omega), List.drop_zero, List.map_take, ← h, List.take_take, Nat.min_eq_left (by omega), Nat.mul_one]
theorem sum_n (mb p : Nat) (hw : WF S) {n : Nat} (h1 : ls.length = n) (h2 : ms.length = n) (hl : S.length + 9 * n < 131072) (hls : RSl ρ 1 al n (ls.map encI)) (hms : RSl ρ 1 bl n (ms.map encI)) (dc : Den S c fc) (d : DenL S ls f) (d' : DenL S ms g) :
    Con Try.prog ρ 97 #[.pointer (some ⟨mb, 0, none⟩), .slice al n cl, .slice bl n cm, .int .i64 c] [MkB mb p, Gr p S]
    (fun v H => ∃ a2 c2 out co T, v = .tuple #[.slice a2 n c2, .int .i64 co] ∧ H = [OwnSl 27 1 a2 n c2 (out.map encI), MkB mb p, Gr p T] ∧ out.length = n ∧ Up S T (9 * n) ∧ DenL T out (fun i => (addF (f i) (g i) (fc i)).1) ∧ Den T co (fun i => (addF (f i) (g i) (fc i)).2)) := by
  subst h1
  have := sum_ok (ρ := ρ) (cl := cl) (cm := cm) mb p hw hl hls (by rw [h2]; exact hms) h2.symm dc d d'
  rw [h2] at this
  refine this.mono ?_
  rintro _ _ ⟨a2, c2, out, co, T, rfl, rfl, h3, u, d1, d2⟩
  exact ⟨a2, c2, out, co, T, by rw [h3], by rw [h3], h3, u, d1, d2⟩
theorem nots_n {ρ : Nat → Obj → Prop} {al : Option Addr} {cl : Nat} {ls : List Int} {n : Nat} (h1 : ls.length = n) (hi : ∀ l ∈ ls, I64 l) (hn : n ≤ 100000) (hls : RSl ρ 1 al n (ls.map encI)) : Con Try.prog ρ 92 #[.slice al n cl] []
    (fun v H => ∃ a2 c2, v = .slice a2 n c2 ∧ H = [OwnSl 27 1 a2 n c2 ((ls.map nt).map encI)]) := by
  subst h1; exact bnots_ok hi hn hls
theorem muxes_n (mb p : Nat) (hw : WF S) {n : Nat} (h1 : ls.length = n) (h2 : ms.length = n) (hl : S.length + 3 * n < 131072) (hls : RSl ρ 1 al n (ls.map encI)) (hms : RSl ρ 1 bl n (ms.map encI)) (dc : Den S c fc) (d : DenL S ls f) (d' : DenL S ms g) :
    Con Try.prog ρ 69 #[.pointer (some ⟨mb, 0, none⟩), .int .i64 c, .slice al n cl, .slice bl n cm] [MkB mb p, Gr p S]
    (fun v H => ∃ a2 c2 out T, v = .slice a2 n c2 ∧ H = [OwnSl 27 1 a2 n c2 (out.map encI), MkB mb p, Gr p T] ∧ out.length = n ∧ Up S T (3 * n) ∧ DenL T out (fun i => muxF (fc i) (f i) (g i))) := by
  subst h1
  have := muxes_ok (ρ := ρ) (cl := cl) (cm := cm) mb p hw hl hls (by rw [h2]; exact hms) h2.symm dc d d'
  rw [h2] at this
  refine this.mono ?_
  rintro _ _ ⟨a2, c2, out, T, rfl, rfl, h3, u, d1⟩
  exact ⟨a2, c2, out, T, by rw [h3], by rw [h3], h3, u, d1⟩
theorem negate_n (mb p : Nat) (hw : WF S) {n : Nat} (h1 : ls.length = n) (hn : n ≤ 64) (hl : S.length + 12 * n < 131072) (hls : RSl ρ 1 al n (ls.map encI)) (dc : Den S c fc) (d : DenL S ls f) :
    Con Try.prog ρ 93 #[.pointer (some ⟨mb, 0, none⟩), .int .i64 c, .slice al n cl] [MkB mb p, Gr p S]
    (fun v H => ∃ a2 c2 out T, v = .slice a2 n c2 ∧ H = [OwnSl 27 1 a2 n c2 (out.map encI), MkB mb p, Gr p T] ∧ out.length = n ∧ Up S T (12 * n) ∧ DenL T out (fun i => negF (fc i) (f i))) := by
  subst h1
  refine (negate_ok (ρ := ρ) (cl := cl) mb p hw hn hl hls dc d).mono ?_
  rintro _ _ ⟨a2, c2, out, T, rfl, rfl, h3, u, d1⟩
  exact ⟨a2, c2, out, T, by rw [h3], by rw [h3], h3, u, d1⟩
theorem zero_n (mb p : Nat) (hw : WF S) {n : Nat} (h1 : ls.length = n) (hn : n ≤ 100000) (hl : S.length + n < 131072) (hls : RSl ρ 1 al n (ls.map encI)) (d : DenL S ls f) : Con Try.prog ρ 119 #[.pointer (some ⟨mb, 0, none⟩), .slice al n cl] [MkB mb p, Gr p S]
    (fun v H => ∃ l T, v = .int .i64 l ∧ H = [MkB mb p, Gr p T] ∧ Up S T n ∧ Den T l (fun i => zeroF (f i))) := by
  subst h1; exact zero_ok mb p hw hn hl hls d
theorem divide_ok (mb p : Nat) (hw : WF S) {n : Nat} (hn0 : 0 < n) (hnl : ls.length = n) (hml : ms.length = n) (hn : n ≤ 60) (hl : S.length + n * (12 * (n + 1)) < 131072) (hls : RSl ρ 1 al n (ls.map encI)) (hms : RSl ρ 1 bl n (ms.map encI)) (d : DenL S ls f) (d' : DenL S ms g) :
    Con Try.prog ρ 118 #[.pointer (some ⟨mb, 0, none⟩), .slice al n cl, .slice bl n cm] [MkB mb p, Gr p S]
    (fun v H => ∃ a2 c2 q a3 c3 r T, v = .tuple #[.slice a2 n c2, .slice a3 n c3] ∧ H = [OwnSl 27 1 a2 n c2 (q.map encI), OwnSl 27 1 a3 n c3 (r.map encI), MkB mb p, Gr p T] ∧ q.length = n ∧ r.length = n ∧ Up S T (n * (12 * (n + 1))) ∧ DenL T q (fun i => (divF (g i) (f i)).1) ∧ DenL T r (fun i => (divF (g i) (f i)).2.take n)) := by
  obtain ⟨b1, o1, cs1, T1, fz1, hr⟩ := lrd (ls := ls) (by rw [hnl]; exact hls)
  obtain ⟨r1, r2, r3⟩ := hr (by omega)
  have hz : ∀ k, ((bitsR k 0).map lit1).length = k := fun k => by rw [List.length_map, bitsR_len]
  have hzd : ∀ (T : St) k, WF T → DenL T ((bitsR k 0).map lit1) (fun _ => List.replicate k false) := fun T k h => (DenL.const h _).congr fun _ => bitsR_zero k
  have hfl : ∀ i, (f i).length = n := fun i => by rw [d.len]; exact hnl
  have hgl : ∀ i, (g i).length = n := fun i => by rw [d'.len]; exact hml
  refine con_intro Try.func118 Try.call118 rfl Try.ntmps118 rfl (L := [(0, _), (1, _), (2, _)]) rfl fun w hh => ?_
  refine g_seq ?_
  refine g_region ?_
  refine g_pure (p_assign rfl) rfl ?_
  refine g_pure (p_assign rfl) rfl ?_
  refine g_nil ?_
  refine g_qt ?_
  refine g_scope ?_
  refine g_seq ?_
  refine g_region ?_
  refine g_pure (p_move rfl) rfl ?_
  refine g_pure (p_len (by rfl) rfl) rfl ?_
  refine g_pure (p_assign rfl) rfl ?_
  refine g_nil ?_
  refine g_qt ?_
  refine g_seq ?_
  refine g_region ?_
  refine g_pure (p_move rfl) rfl ?_
  refine g_call (Hin := []) (Hr := ?hr5) (R := ?rr5) rfl rfl rfl ?hin5 ?hc5 ?hk5
  case hin5 => repeat' (first | exact Cover.nil | exact Take.here | apply Cover.cons | apply Take.there)
  case hc5 => intro ρ' hρ hR; exact constant_ok n 0 (by omega) (by unfold I64; omega)
  rintro _ _ ⟨qa, qc, rfl, rfl⟩
  refine g_pure (p_move rfl) rfl ?_
  first | refine g_pure (p_addi rfl rfl (by omega)) rfl ?_ | refine g_pure (p_add rfl rfl) rfl ?_
  refine g_call (Hin := []) (Hr := ?hr6) (R := ?rr6) rfl rfl rfl ?hin6 ?hc6 ?hk6
  case hin6 => repeat' (first | exact Cover.nil | exact Take.here | apply Cover.cons | apply Take.there)
  case hc6 => intro ρ' hρ hR; exact constant_ok (n + 1) 0 (by omega) (by unfold I64; omega)
  rintro _ _ ⟨ra, rc, rfl, rfl⟩
  refine g_pure (p_assign rfl) rfl ?_
  refine g_pure (p_assign rfl) rfl ?_
  refine g_nil ?_
  refine g_qt ?_
  refine g_seq ?_
  refine g_region ?_
  refine g_pure (p_move rfl) rfl ?_
  refine g_call (Hin := []) (Hr := ?hr7) (R := ?rr7) rfl rfl rfl ?hin7 ?hc7 ?hk7
  case hin7 => repeat' (first | exact Cover.nil | exact Take.here | apply Cover.cons | apply Take.there)
  case hc7 => intro ρ' hρ hR; exact clone_n hml (hms.mono hρ) (by omega)
  rintro _ _ ⟨wa, wc, rfl, rfl⟩
  refine g_eff (e_bs (xs := [.const (.int .i64 0)]) rfl rfl rfl (by rfl) (by rfl) rfl (by rfl)) rfl (fun _ _ => ?_)
  rintro ⟨b22, rfl, rfl⟩
  refine g_eff (e_appendO (by rfl) (by rfl) rfl rfl (by first | (apply Has.own; (repeat' (first | exact Take.here | apply Take.there)); done) | exact Has.ro (by assumption)) (by rfl) (by rfl) (by repeat' (first | exact Take.here | apply Take.there)) (by omega) (by first | omega | (dsimp only; omega) | (simp <;> omega)) (by omega)) rfl (fun _ _ => ?_)
  rintro ⟨a23, c23, rfl, rfl⟩
  refine g_pure (p_assign rfl) rfl ?_
  refine g_nil ?_
  refine g_qt ?_
  refine g_seq ?_
  refine g_label ?_
  refine g_qt ?_
  refine g_seq ?_
  refine g_seq ?_
  refine g_region ?_
  refine g_pure (p_move rfl) rfl ?_
  first | refine g_pure (p_subi rfl rfl (by omega)) rfl ?_ | refine g_pure (p_sub rfl rfl) rfl ?_
  refine g_pure (p_assign rfl) rfl ?_
  refine g_nil ?_
  refine g_qt ?_
  refine g_block ?_
  have ew : ms.map encI ++ [Value.int .i64 0] = (ms ++ [0]).map encI := by rw [List.map_append]; rfl
  rw [ew]
  have dw : ∀ T : St, ∀ k, Up S T k → DenL T (ms ++ [0]) (fun i => g i ++ [false]) := fun T k u => (d'.up hw u).snoc (Den.zero u.wf)
  have hwl : (ms ++ [(0 : Int)]).length = n + 1 := by simp [hml]
  generalize ms ++ [(0 : Int)] = wide at dw hwl ⊢
  refine g_loop (fun q : Nat × List Int × List Int × Option Addr × Nat × St => [(0, .pointer (some ⟨mb, 0, none⟩)), (1, .slice al n cl), (6, .slice qa n qc), (7, .slice q.2.2.2.1 (n + 1) q.2.2.2.2.1), (8, .int .i64 n), (9, .slice a23 (n + 1) c23), (10, .int .i64 ((q.1 : Int) - 1))])
    (fun q => [OwnSl 27 1 qa n qc (q.2.1.map encI), OwnSl 27 1 q.2.2.2.1 (n + 1) q.2.2.2.2.1 (q.2.2.1.map encI), OwnSl 27 1 a23 (n + 1) c23 (wide.map encI), MkB mb p, Gr p q.2.2.2.2.2])
    (fun q => q.1 ≤ n ∧ q.2.1.length = n ∧ q.2.2.1.length = n + 1 ∧ Up S q.2.2.2.2.2 ((n - q.1) * (12 * (n + 1))) ∧ DenL q.2.2.2.2.2 q.2.1 (fun i => List.replicate q.1 false ++ (divF (g i) ((f i).drop q.1)).1) ∧ DenL q.2.2.2.2.2 q.2.2.1 (fun i => (divF (g i) ((f i).drop q.1)).2)) (fun q => q.1)
    (n, (bitsR n 0).map lit1, (bitsR (n + 1) 0).map lit1, ra, rc, S) ⟨Nat.le_refl _, hz n, hz (n + 1), by dsimp only; rw [Nat.sub_self, Nat.zero_mul]; exact .refl hw, (hzd S n hw).congr fun i => ?_, (hzd S (n + 1) hw).congr fun i => ?_⟩ (by (repeat (first | exact trivial | refine ⟨by rfl, ?_⟩)); done) (by repeat' (first | exact Cover.nil | exact Take.here | apply Cover.cons | apply Take.there)) ?_
  · show List.replicate n false = List.replicate n false ++ (divF (g i) ((f i).drop n)).1
    rw [List.drop_of_length_le (by rw [hfl]; exact Nat.le_refl _), divF, List.append_nil]
  · show List.replicate (n + 1) false = (divF (g i) ((f i).drop n)).2
    rw [List.drop_of_length_le (by rw [hfl]; exact Nat.le_refl _), divF, hgl]
  rintro ⟨m, quo, rest, ra, rc, T⟩ ⟨hm, hql, hrl, u, dq, dr⟩
  dsimp only at hm hql hrl u dq dr ⊢
  have hul := u.len
  refine g_seq ?_
  refine g_block ?_
  refine g_seq ?_
  refine g_seq ?_
  refine g_region ?_
  refine g_pure (p_move rfl) rfl ?_
  refine g_pure (p_lss rfl rfl) rfl ?_
  refine g_nil ?_
  refine g_qt ?_
  refine g_ifd rfl (fun h => ?_) (fun h => ?_)
  · have hm0 : m = 0 := by omega
    subst hm0
    refine g_cap (e := 27) (a1 := ra) (k := n + 1) (cap := rc) (xs := rest.map encI) (size := 1) (by repeat' (first | exact Take.here | apply Take.there)) fun hcap _ => ?_
    refine g_exit ?_
    refine g_qt_exit ?_
    refine g_qb_other rfl ?_
    refine g_qt_exit ?_
    refine g_qn_exit ?_
    refine g_qb_exit ?_
    refine g_qt ?_
    refine g_seq ?_
    refine m_begin0 (.fl 0 0 (.fl 1 0 (.fl 2 0 (.fl 3 0 (.fl 4 0 (.fl 5 0 .done)))))) (by kernel_rfl) (by kernel_rfl) ?_
    refine m_float0 rfl (fun _ _ => p_move rfl) rfl ?_
    refine m_float0 rfl (fun _ _ => p_move rfl) rfl ?_
    refine m_float0 rfl (fun _ _ => p_move rfl) rfl ?_
    refine m_float0 rfl (fun _ _ => p_sliceh rfl rfl (by omega)) rfl ?_
    refine m_float0 rfl (fun _ _ => p_assign rfl) rfl ?_
    refine m_float0 rfl (fun _ _ => p_assign rfl) rfl ?_
    refine m_nil ?_
    refine g_qt ?_
    refine g_ret ?_
    refine g_qs_ret ?_
    refine g_weak (A := OwnSl 27 1 ra (n + 1) rc (rest.map encI)) (B := OwnSl 27 1 ra n rc ((rest.take n).map encI)) (by repeat' (first | exact Take.here | apply Take.there)) (fun h hh => by
      have := own_shrink (m := n) (by omega) h hh
      rwa [Nat.mul_one, ← List.map_take] at this) ?_
    exact g_post (rs := [.tmp 6, .tmp 7]) rfl (.tmp rfl (.tmp rfl .nil)) ⟨qa, qc, quo, ra, rc, rest.take n, T, rfl, rfl, hql, by rw [List.length_take]; omega, u, dq.congr fun i => by simp, (dr.take n).congr fun i => by simp⟩ (by repeat' (first | exact Cover.nil | exact Take.here | apply Cover.cons | apply Take.there))
  · obtain ⟨k, rfl⟩ : ∃ k, m = k + 1 := ⟨m - 1, by omega⟩
    have hkl : k < ls.length := by omega
    have hmul : (n - k) * (12 * (n + 1)) ≤ n * (12 * (n + 1)) := Nat.mul_le_mul_right _ (by omega)
    rw [show n - k = (n - (k + 1)) + 1 by omega, Nat.add_mul, Nat.one_mul] at hmul
    have hki : (((k + 1 : Nat) : Int) - 1).toNat = k := by omega
    have hb : cs1[o1 + (((k + 1 : Nat) : Int) - 1).toNat * 1]? = some (.int .i64 ls[k]) := by rw [hki]; exact r3 _ _
    refine g_skip ?_
    refine g_qt ?_
    refine g_seq ?_
    refine g_own (e := 27) (a1 := ra) (k := n + 1) (cap := rc) (xs := rest.map encI) (by repeat' (first | exact Take.here | apply Take.there)) (fun _ h2 _ _ => absurd h2 (by omega)) ?_
    rintro gx curx rfl x1 x2 x3 x4 x5
    have hsub : sub curx 0 ((n : Int).toNat * 1) = some ((rest.take n).map encI) := sub_own x4 hrl (by omega)
    have hone : one1 ((rest.take n).map encI) = true := by unfold one1; rw [List.all_eq_true]; intro v hv; obtain ⟨y, _, rfl⟩ := List.mem_map.1 hv; rfl
    refine m_begin0 (.fl 0 0 (.fl 1 0 (.fl 2 0 (.fl 3 1 (.fl 5 0 (.fl 6 0 (.fl 7 0 (.ef 4 (.ef 8 (.fl 9 0 .done)))))))))) (by kernel_rfl) (by kernel_rfl) ?_
    refine m_float0 rfl (fun _ _ => p_move rfl) rfl ?_
    refine m_float0 rfl (fun _ _ => p_move rfl) rfl ?_
    refine m_float0 rfl (fun _ _ => p_indexAddr rfl rfl (by omega) (fun _ => r1)) rfl ?_
    refine m_float rfl (p_load (by rfl) rfl (Has.ro r2) hb) rfl ?_
    refine m_float0 rfl (fun _ _ => p_move rfl) rfl ?_
    refine m_float0 rfl (fun _ _ => p_move rfl) rfl ?_
    refine m_float0 rfl (fun _ _ => p_sliceh rfl rfl (by omega)) rfl ?_
    refine m_eff rfl (e_bs (xs := [.tmp 33]) rfl rfl rfl (by rfl) (by rfl) rfl (by rfl)) rfl (fun _ _ => ?_)
    rintro ⟨b34, rfl, rfl⟩
    refine ⟨.none (by kernel_rfl), ?_⟩
    refine g_fold (e := 27) (g := b34) (k := 1) (cap := 1) (size := 1) (xs := [.int .i64 ls[k]]) (by repeat' (first | exact Take.here | apply Take.there)) (by omega) (by omega) rfl rfl ?_
    refine m_eff rfl (e_append rfl rfl rfl rfl (Has.own (b := gx) (by repeat' (first | exact Take.here | apply Take.there))) hsub hone (by repeat' (first | exact Take.here | apply Take.there)) (by omega) (by dsimp only; omega) (by omega)) rfl (fun _ _ => ?_)
    rintro ⟨a38, c38, rfl, rfl⟩
    refine ⟨.none (by kernel_rfl), ?_⟩
    refine m_float0 rfl (fun _ _ => p_assign rfl) rfl ?_
    refine m_nil ?_
    refine g_qt ?_
    refine g_seq ?_
    have er : [Value.int .i64 ls[k]] ++ (rest.take n).map encI = (ls[k] :: rest.take n).map encI := rfl
    rw [er, show 1 + (n : Int).toNat = n + 1 by omega]
    have hrl2 : (ls[k] :: rest.take n).length = n + 1 := by rw [List.length_cons, List.length_take]; omega
    have dr2 : DenL T (ls[k] :: rest.take n) (fun i => (f i).getD k false :: (divF (g i) ((f i).drop (k + 1))).2.take n) := .cons ((d.get hkl).up hw u) (dr.take n)
    have dwT := dw T _ u
    generalize ls[k] :: rest.take n = rest2 at hrl2 dr2 ⊢
    refine g_region ?_
    refine g_pure (p_move rfl) rfl ?_
    refine g_pure (p_move rfl) rfl ?_
    refine g_pure (p_move rfl) rfl ?_
    refine g_call (Hin := []) (Hr := ?hr8) (R := ?rr8) rfl rfl rfl ?hin8 ?hc8 ?hk8
    case hin8 => repeat' (first | exact Cover.nil | exact Take.here | apply Cover.cons | apply Take.there)
    case hc8 => intro ρ' hρ hR; exact nots_n hwl (i64_of u.wf dwT) (by omega) (RSl.of_own (Take.ro (A := OwnSl 27 1 a23 (n + 1) c23 (wide.map encI)) (by repeat' (first | exact Take.here | apply Take.there)) hR))
    rintro _ _ ⟨na, nc, rfl, rfl⟩
    refine g_call (Hin := [MkB mb p, Gr p T]) (Hr := ?hr9) (R := ?rr9) rfl rfl rfl ?hin9 ?hc9 ?hk9
    case hin9 => repeat' (first | exact Cover.nil | exact Take.here | apply Cover.cons | apply Take.there)
    case hc9 => intro ρ' hρ hR; exact sum_n mb p u.wf hrl2 (by rw [List.length_map]; exact hwl) (by omega) (RSl.of_own (Take.ro (A := OwnSl 27 1 a38 (n + 1) c38 (rest2.map encI)) (by repeat' (first | exact Take.here | apply Take.there)) hR)) (RSl.of_own (Take.ro (A := OwnSl 27 1 na (n + 1) nc ((wide.map nt).map encI)) (by repeat' (first | exact Take.here | apply Take.there)) hR)) (Den.one u.wf) dr2 dwT.not
    rintro _ _ ⟨la, lc, less, carry, U, rfl, rfl, hll, u1, d1, d2⟩
    refine g_pure (p_move rfl) rfl ?_
    refine g_pure (p_extract rfl rfl) rfl ?_
    refine g_pure (p_extract rfl rfl) rfl ?_
    refine g_pure (p_assign rfl) rfl ?_
    refine g_pure (p_assign rfl) rfl ?_
    refine g_nil ?_
    refine g_qt ?_
    refine g_seq ?_
    have hul1 := u1.len
    refine g_own (e := 27) (a1 := qa) (k := n) (cap := qc) (xs := quo.map encI) (by repeat' (first | exact Take.here | apply Take.there)) (fun _ h2 _ _ => absurd h2 (by omega)) ?_
    rintro gq curq rfl y1 y2 y3 y4 y5
    refine g_region ?_
    refine g_pure (p_move rfl) rfl ?_
    refine g_pure (p_move rfl) rfl ?_
    refine g_pure (p_move rfl) rfl ?_
    refine g_pure (p_indexAddr rfl rfl (by omega) (fun _ => rfl)) rfl ?_
    refine g_eff0 (e_store1 (by rfl) rfl rfl rfl (by repeat' (first | exact Take.here | apply Take.there)) (by show 0 + (((k + 1 : Nat) : Int) - 1).toNat * 1 < _; omega)) (fun _ _ => ?_)
    rintro rfl
    refine g_nil ?_
    refine g_qt ?_
    refine g_fold (e := 27) (g := gq) (k := n) (cap := qc) (size := 1) (xs := (quo.set k carry).map encI) (by repeat' (first | exact Take.here | apply Take.there)) y1 y2 (by rw [List.length_set]; exact y3) (by show List.take _ (List.set _ (0 + (((k + 1 : Nat) : Int) - 1).toNat * 1) _) = _; rw [hki]; exact set_own y4) ?_
    refine g_region ?_
    refine g_pure (p_move rfl) rfl ?_
    refine g_pure (p_move rfl) rfl ?_
    refine g_pure (p_move rfl) rfl ?_
    refine g_pure (p_move rfl) rfl ?_
    refine g_call (Hin := [MkB mb p, Gr p U]) (Hr := ?hr10) (R := ?rr10) rfl rfl rfl ?hin10 ?hc10 ?hk10
    case hin10 => repeat' (first | exact Cover.nil | exact Take.here | apply Cover.cons | apply Take.there)
    case hc10 => intro ρ' hρ hR; exact muxes_n mb p u1.wf hll hrl2 (by omega) (RSl.of_own (Take.ro (A := OwnSl 27 1 la (n + 1) lc (less.map encI)) (by repeat' (first | exact Take.here | apply Take.there)) hR)) (RSl.of_own (Take.ro (A := OwnSl 27 1 a38 (n + 1) c38 (rest2.map encI)) (by repeat' (first | exact Take.here | apply Take.there)) hR)) d2 d1 (dr2.up u.wf u1)
    rintro _ _ ⟨fa, fc, rest3, V, rfl, rfl, hfl3, u2, d3⟩
    refine g_pure (p_assign rfl) rfl ?_
    refine g_nil ?_
    refine g_qb ?_
    refine g_qt ?_
    refine g_region ?_
    refine g_pure (p_move rfl) rfl ?_
    first | refine g_pure (p_subi rfl rfl (by omega)) rfl ?_ | refine g_pure (p_sub rfl rfl) rfl ?_
    refine g_pure (p_assign rfl) rfl ?_
    refine g_nil ?_
    refine g_qn ?_
    have eI : ((k + 1 : Nat) : Int) - 1 - 1 = ((k : Nat) : Int) - 1 := by omega
    rw [eI]
    have u12 := u1.trans u2 (Nat.le_refl _)
    refine g_next (k, quo.set k carry, rest3, fa, fc, V) (by (repeat (first | exact trivial | refine ⟨by rfl, ?_⟩)); done) (by repeat' (first | exact Cover.nil | exact Take.here | apply Cover.cons | apply Take.there)) ⟨by dsimp only; omega, by rw [List.length_set]; exact hql, hfl3, ?_, ?_, ?_⟩ (by dsimp only; omega)
    · refine u.trans u12 ?_
      dsimp only
      rw [show n - k = (n - (k + 1)) + 1 by omega, Nat.add_mul, Nat.one_mul]; omega
    · refine (((dq.up u.wf u12).set (d2.up u1.wf u2) k)).congr fun i => ?_
      have hs := divF_step (b := g i) (l := f i) (m := k) (by rw [hfl]; omega)
      rw [hgl] at hs
      show _ = List.replicate k false ++ (divF (g i) ((f i).drop k)).1
      rw [quo_step, hs]
    · refine d3.congr fun i => ?_
      have hs := divF_step (b := g i) (l := f i) (m := k) (by rw [hfl]; omega)
      rw [hgl] at hs
      show _ = (divF (g i) ((f i).drop k)).2
      rw [hs]
end Go.Proofs.Ytkebblmmgcgjkaa
/- Chapter 38: division, comparisons, the operators. Conditions: none. -/
namespace Go.Proofs.Ytkebblmmgcgjkaa
set_option maxRecDepth 8000
set_option linter.unusedVariables false
set_option linter.unusedSimpArgs false
set_option linter.unusedSectionVars false
open Go Go.Z Go.Z.Aig Go.Z.Bit

variable {ρ : Nat → Obj → Prop} {S : St} {a b c : Int} {fa fb fc : List Bool → Bool}
variable {al bl : Option Addr} {cl cm : Nat} {ls ms : List Int} {f g : List Bool → List Bool}
theorem equal_n (mb p : Nat) (hw : WF S) {n : Nat} (h1 : ls.length = n) (h2 : ms.length = n) (hl : S.length + 4 * n < 131072) (hls : RSl ρ 1 al n (ls.map encI)) (hms : RSl ρ 1 bl n (ms.map encI)) (d : DenL S ls f) (d' : DenL S ms g) :
    Con Try.prog ρ 120 #[.pointer (some ⟨mb, 0, none⟩), .slice al n cl, .slice bl n cm] [MkB mb p, Gr p S]
    (fun v H => ∃ l T, v = .int .i64 l ∧ H = [MkB mb p, Gr p T] ∧ Up S T (4 * n) ∧ Den T l (fun i => equalF (f i) (g i))) := by
  subst h1
  have := equal_ok (ρ := ρ) (cl := cl) (cm := cm) mb p hw hl hls (by rw [h2]; exact hms) h2.symm d d'
  rwa [h2] at this
theorem product_n (mb p : Nat) (hw : WF S) {n : Nat} (h1 : ls.length = n) (h2 : ms.length = n) (hn : n ≤ 64) (hl : S.length + n * (10 * n) < 131072) (hls : RSl ρ 1 al n (ls.map encI)) (hms : RSl ρ 1 bl n (ms.map encI)) (d : DenL S ls f) (d' : DenL S ms g) :
    Con Try.prog ρ 98 #[.pointer (some ⟨mb, 0, none⟩), .slice al n cl, .slice bl n cm] [MkB mb p, Gr p S]
    (fun v H => ∃ a2 c2 out T, v = .slice a2 n c2 ∧ H = [OwnSl 27 1 a2 n c2 (out.map encI), MkB mb p, Gr p T] ∧ out.length = n ∧ Up S T (n * (10 * n)) ∧ DenL T out (fun i => mulF (f i) (g i) n n)) := by
  subst h1
  have := product_ok (ρ := ρ) (cl := cl) (cm := cm) mb p hw hn hl hls (by rw [h2]; exact hms) h2.symm d d'
  rw [h2] at this
  refine this.mono ?_
  rintro _ _ ⟨a2, c2, out, T, rfl, rfl, h3, u, d1⟩
  exact ⟨a2, c2, out, T, by rw [h3], by rw [h3], h3, u, d1⟩
set_option maxHeartbeats 1600000 in
theorem division_ok (mb p : Nat) (hw : WF S) (hnl : ls.length = 16) (hml : ms.length = 16) (hl : S.length + 5000 < 131072) (hls : RSl ρ 1 al 16 (ls.map encI)) (hms : RSl ρ 1 bl 16 (ms.map encI)) (d : DenL S ls f) (d' : DenL S ms g) :
    Con Try.prog ρ 99 #[.pointer (some ⟨mb, 0, none⟩), .slice al 16 cl, .slice bl 16 cm] [MkB mb p, Gr p S]
    (fun v H => ∃ a2 c2 q a3 c3 r T, v = .tuple #[.slice a2 16 c2, .slice a3 16 c3] ∧ H = [OwnSl 27 1 a2 16 c2 (q.map encI), OwnSl 27 1 a3 16 c3 (r.map encI), MkB mb p, Gr p T] ∧ q.length = 16 ∧ r.length = 16 ∧ Up S T 5000 ∧ DenL T q (fun i => (divisionF (f i) (g i)).1) ∧ DenL T r (fun i => (divisionF (f i) (g i)).2)) := by
  obtain ⟨b1, o1, cs1, T1, fz1, hr⟩ := lrd (ls := ls) (by rw [hnl]; exact hls)
  obtain ⟨r1, r2, r3⟩ := hr (by omega)
  obtain ⟨b2, o2, cs2, T2, fz2, hr2⟩ := lrd (ls := ms) (by rw [hml]; exact hms)
  obtain ⟨s1, s2, s3⟩ := hr2 (by omega)
  have hfl : ∀ i, (f i).length = 16 := fun i => by rw [d.len]; exact hnl
  have hgl : ∀ i, (g i).length = 16 := fun i => by rw [d'.len]; exact hml
  have da := d.get (show 15 < ls.length by omega)
  have db := d'.get (show 15 < ms.length by omega)
  have hz : ((bitsR 16 0).map lit1).length = 16 := by rw [List.length_map, bitsR_len]
  have hzd : ∀ (T : St), WF T → DenL T ((bitsR 16 0).map lit1) (fun _ => List.replicate 16 false) := fun T h => (DenL.const h _).congr fun _ => bitsR_zero 16
  refine con_intro Try.func99 Try.call99 rfl Try.ntmps99 rfl (L := [(0, _), (1, _), (2, _)]) rfl fun w hh => ?_
  refine g_seq ?_
  refine g_region ?_
  refine g_pure (p_assign rfl) rfl ?_
  refine g_pure (p_assign rfl) rfl ?_
  refine g_nil ?_
  refine g_qt ?_
  refine g_seq ?_
  refine g_region ?_
  refine g_pure (p_move rfl) rfl ?_
  refine g_pure (p_len (by rfl) rfl) rfl ?_
  first | refine g_pure (p_subi rfl rfl (by omega)) rfl ?_ | refine g_pure (p_sub rfl rfl) rfl ?_
  refine g_pure (p_assign rfl) rfl ?_
  refine g_nil ?_
  refine g_qt ?_
  refine g_seq ?_
  refine m_begin (.fl 0 0 (.fl 1 0 (.fl 2 0 (.fl 3 0 (.fl 4 0 (.fl 5 1 (.fl 6 0 (.fl 8 0 (.fl 9 0 (.fl 10 0 (.fl 11 0 (.fl 12 1 (.fl 13 0 (.ef 7 (.ef 14 (.ef 15 (.fl 16 0 (.fl 17 0 (.fl 18 0 (.fl 19 0 (.fl 20 0 .done))))))))))))))))))))) [] (by kernel_rfl) (by kernel_rfl) (by repeat' (first | exact Cover.nil | exact Take.here | apply Cover.cons | apply Take.there)) ?_
  refine m_float0 rfl (fun _ _ => p_move rfl) rfl ?_
  refine m_float0 rfl (fun _ _ => p_move rfl) rfl ?_
  refine m_float0 rfl (fun _ _ => p_move rfl) rfl ?_
  refine m_float0 rfl (fun _ _ => p_move rfl) rfl ?_
  refine m_float0 rfl (fun _ _ => p_indexAddr rfl rfl (by omega) (fun _ => r1)) rfl ?_
  refine m_float rfl (p_load (by rfl) rfl (Has.ro r2) (r3 15 (by omega))) rfl ?_
  refine m_float0 rfl (fun _ _ => p_move rfl) rfl ?_
  refine m_float0 rfl (fun _ _ => p_move rfl) rfl ?_
  refine m_float0 rfl (fun _ _ => p_move rfl) rfl ?_
  refine m_float0 rfl (fun _ _ => p_move rfl) rfl ?_
  refine m_float0 rfl (fun _ _ => p_indexAddr rfl rfl (by omega) (fun _ => s1)) rfl ?_
  refine m_float rfl (p_load (by rfl) rfl (Has.ro s2) (s3 15 (by omega))) rfl ?_
  refine m_float0 rfl (fun _ _ => p_move rfl) rfl ?_
  refine m_call (Hin := ?hi1) (Hr := ?hr1) (R := ?rr1) rfl wantedN rfl rfl rfl ?hin1 ?hc1 ?hk1
  case hc1 => intro ρ' hρ hR; exact negate_n mb p hw hnl (by omega) (by omega) (hls.mono hρ) da d
  case hin1 => repeat' (first | exact Cover.nil | exact Take.here | apply Cover.cons | apply Take.there)
  rintro _ _ ⟨na, nc, x1, V1, rfl, rfl, hx1, u1, d1⟩
  refine ⟨.some (by repeat' (first | exact Cover.nil | exact Take.here | apply Cover.cons | apply Take.there)), ?_⟩
  have l1 := u1.len
  refine m_call (Hin := ?hi2) (Hr := ?hr2) (R := ?rr2) rfl wantedN rfl rfl rfl ?hin2 ?hc2 ?hk2
  case hc2 => intro ρ' hρ hR; exact negate_n mb p u1.wf hml (by omega) (by omega) (hms.mono hρ) (db.up hw u1) (d'.up hw u1)
  case hin2 => repeat' (first | exact Cover.nil | exact Take.here | apply Cover.cons | apply Take.there)
  rintro _ _ ⟨ma, mc, y1, V2, rfl, rfl, hy1, u2, d2⟩
  refine ⟨.none (by kernel_rfl), ?_⟩
  have l2 := u2.len
  have u12 := u1.trans u2 (Nat.le_refl _)
  refine m_call (Hin := [MkB mb p, Gr p V2]) (Hr := ?hr3) (R := ?rr3) rfl wantedN rfl rfl rfl ?hin3 ?hc3 ?hk3
  case hin3 => repeat' (first | exact Cover.nil | exact Take.here | apply Cover.cons | apply Take.there)
  case hc3 => intro ρ' hρ hR; exact divide_ok mb p u2.wf (by omega) hx1 hy1 (by omega) (by omega) (RSl.of_own (Take.ro (A := OwnSl 27 1 na 16 nc (x1.map encI)) (by repeat' (first | exact Take.here | apply Take.there)) hR)) (RSl.of_own (Take.ro (A := OwnSl 27 1 ma 16 mc (y1.map encI)) (by repeat' (first | exact Take.here | apply Take.there)) hR)) (d1.up u1.wf u2) d2
  rintro _ _ ⟨qa, qc, q, ra, rc, r, V3, rfl, rfl, hq, hr', u3, d3, d4⟩
  refine ⟨.none (by kernel_rfl), ?_⟩
  refine m_float0 rfl (fun _ _ => p_move rfl) rfl ?_
  refine m_float0 rfl (fun _ _ => p_extract rfl rfl) rfl ?_
  refine m_float0 rfl (fun _ _ => p_extract rfl rfl) rfl ?_
  refine m_float0 rfl (fun _ _ => p_assign rfl) rfl ?_
  refine m_float0 rfl (fun _ _ => p_assign rfl) rfl ?_
  refine m_nil ?_
  refine g_qt ?_
  refine g_seq ?_
  refine m_begin (.fl 0 0 (.fl 1 0 (.fl 2 0 (.fl 3 0 (.fl 4 0 (.fl 5 1 (.fl 6 0 (.fl 7 0 (.fl 8 0 (.fl 9 1 (.fl 11 0 (.fl 13 0 (.fl 14 0 (.fl 15 0 (.fl 16 0 (.fl 17 1 (.fl 18 0 (.ef 10 (.ef 12 (.ef 19 (.fl 20 0 (.fl 21 0 .done)))))))))))))))))))))) [] (by kernel_rfl) (by kernel_rfl) (by repeat' (first | exact Cover.nil | exact Take.here | apply Cover.cons | apply Take.there)) ?_
  refine m_float0 rfl (fun _ _ => p_move rfl) rfl ?_
  refine m_float0 rfl (fun _ _ => p_move rfl) rfl ?_
  refine m_float0 rfl (fun _ _ => p_move rfl) rfl ?_
  refine m_float0 rfl (fun _ _ => p_move rfl) rfl ?_
  refine m_float0 rfl (fun _ _ => p_indexAddr rfl rfl (by omega) (fun _ => r1)) rfl ?_
  refine m_float rfl (p_load (by rfl) rfl (Has.ro r2) (r3 15 (by omega))) rfl ?_
  refine m_float0 rfl (fun _ _ => p_move rfl) rfl ?_
  refine m_float0 rfl (fun _ _ => p_move rfl) rfl ?_
  refine m_float0 rfl (fun _ _ => p_indexAddr rfl rfl (by omega) (fun _ => s1)) rfl ?_
  refine m_float rfl (p_load (by rfl) rfl (Has.ro s2) (s3 15 (by omega))) rfl ?_
  refine m_float0 rfl (fun _ _ => p_move rfl) rfl ?_
  refine m_float0 rfl (fun _ _ => p_move rfl) rfl ?_
  refine m_float0 rfl (fun _ _ => p_move rfl) rfl ?_
  refine m_float0 rfl (fun _ _ => p_move rfl) rfl ?_
  refine m_float0 rfl (fun _ _ => p_indexAddr rfl rfl (by omega) (fun _ => r1)) rfl ?_
  refine m_float rfl (p_load (by rfl) rfl (Has.ro r2) (r3 15 (by omega))) rfl ?_
  refine m_float0 rfl (fun _ _ => p_move rfl) rfl ?_
  have l3 := u3.len
  have u13 := u12.trans u3 (Nat.le_refl _)
  refine m_call (Hin := ?hi4) (Hr := ?hr4) (R := ?rr4) rfl wantedN rfl rfl rfl ?hin4 ?hc4 ?hk4
  case hc4 => intro ρ' hρ hR; exact mxor_ok mb p u3.wf (by omega) (da.up hw u13) (db.up hw u13)
  case hin4 => repeat' (first | exact Cover.nil | exact Take.here | apply Cover.cons | apply Take.there)
  rintro _ _ ⟨s, V4, rfl, rfl, u4, d5⟩
  refine ⟨.some (by repeat' (first | exact Cover.nil | exact Take.here | apply Cover.cons | apply Take.there)), ?_⟩
  have l4 := u4.len
  have u14 := u13.trans u4 (Nat.le_refl _)
  refine m_call (Hin := [MkB mb p, Gr p V4]) (Hr := ?hr5) (R := ?rr5) rfl wantedN rfl rfl rfl ?hin5 ?hc5 ?hk5
  case hin5 => repeat' (first | exact Cover.nil | exact Take.here | apply Cover.cons | apply Take.there)
  case hc5 => intro ρ' hρ hR; exact negate_n mb p u4.wf hq (by omega) (by omega) (RSl.of_own (Take.ro (A := OwnSl 27 1 qa 16 qc (q.map encI)) (by repeat' (first | exact Take.here | apply Take.there)) hR)) d5 (d3.up u3.wf u4)
  rintro _ _ ⟨q2a, q2c, q2, V5, rfl, rfl, hq2, u5, d6⟩
  refine ⟨.some (by repeat' (first | exact Cover.nil | exact Take.here | apply Cover.cons | apply Take.there)), ?_⟩
  have l5 := u5.len
  have u15 := u14.trans u5 (Nat.le_refl _)
  refine m_call (Hin := [MkB mb p, Gr p V5]) (Hr := ?hr6) (R := ?rr6) rfl wantedN rfl rfl rfl ?hin6 ?hc6 ?hk6
  case hin6 => repeat' (first | exact Cover.nil | exact Take.here | apply Cover.cons | apply Take.there)
  case hc6 => intro ρ' hρ hR; exact negate_n mb p u5.wf hr' (by omega) (by omega) (RSl.of_own (Take.ro (A := OwnSl 27 1 ra 16 rc (r.map encI)) (by repeat' (first | exact Take.here | apply Take.there)) hR)) (da.up hw u15) (d4.up u3.wf (u4.trans u5 (Nat.le_refl _)))
  rintro _ _ ⟨r2a, r2c, r2, V6, rfl, rfl, hr2', u6, d7⟩
  refine ⟨.none (by kernel_rfl), ?_⟩
  refine m_float0 rfl (fun _ _ => p_assign rfl) rfl ?_
  refine m_float0 rfl (fun _ _ => p_assign rfl) rfl ?_
  refine m_nil ?_
  refine g_qt ?_
  refine g_seq ?_
  refine g_region ?_
  refine g_pure (p_move rfl) rfl ?_
  refine g_pure (p_move rfl) rfl ?_
  have l6 := u6.len
  have u16 := u15.trans u6 (Nat.le_refl _)
  refine g_call (Hin := [MkB mb p, Gr p V6]) (Hr := ?hr7) (R := ?rr7) rfl rfl rfl ?hin7 ?hc7 ?hk7
  case hin7 => repeat' (first | exact Cover.nil | exact Take.here | apply Cover.cons | apply Take.there)
  case hc7 => intro ρ' hρ hR; exact zero_n mb p u6.wf hml (by omega) (by omega) (hms.mono hρ) (d'.up hw u16)
  rintro _ _ ⟨z, V7, rfl, rfl, u7, d8⟩
  refine g_pure (p_assign rfl) rfl ?_
  refine g_nil ?_
  refine g_qt ?_
  refine g_seq ?_
  refine g_region ?_
  refine g_pure (p_move rfl) rfl ?_
  refine g_pure (p_move rfl) rfl ?_
  refine g_pure (p_move rfl) rfl ?_
  first | refine g_pure (p_addi rfl rfl (by omega)) rfl ?_ | refine g_pure (p_add rfl rfl) rfl ?_
  have l7 := u7.len
  have u17 := u16.trans u7 (Nat.le_refl _)
  refine g_call (Hin := []) (Hr := ?hr8) (R := ?rr8) rfl rfl rfl ?hin8 ?hc8 ?hk8
  case hin8 => repeat' (first | exact Cover.nil | exact Take.here | apply Cover.cons | apply Take.there)
  case hc8 => intro ρ' hρ hR; exact constant_ok 16 0 (by omega) (by unfold I64; omega)
  rintro _ _ ⟨ka, kc, rfl, rfl⟩
  refine g_pure (p_move rfl) rfl ?_
  refine g_call (Hin := [MkB mb p, Gr p V7]) (Hr := ?hr9) (R := ?rr9) rfl rfl rfl ?hin9 ?hc9 ?hk9
  case hin9 => repeat' (first | exact Cover.nil | exact Take.here | apply Cover.cons | apply Take.there)
  case hc9 => intro ρ' hρ hR; exact muxes_n mb p u7.wf hz hq2 (by omega) (RSl.of_own (Take.ro (A := OwnSl 27 1 ka 16 kc (((bitsR 16 0).map lit1).map encI)) (by repeat' (first | exact Take.here | apply Take.there)) hR)) (RSl.of_own (Take.ro (A := OwnSl 27 1 q2a 16 q2c (q2.map encI)) (by repeat' (first | exact Take.here | apply Take.there)) hR)) d8 (hzd _ u7.wf) (d6.up u5.wf (u6.trans u7 (Nat.le_refl _)))
  rintro _ _ ⟨oa, oc, o1, V8, rfl, rfl, ho1, u8, d9⟩
  refine g_pure (p_move rfl) rfl ?_
  refine g_pure (p_move rfl) rfl ?_
  refine g_pure (p_move rfl) rfl ?_
  refine g_pure (p_move rfl) rfl ?_
  have l8 := u8.len
  have u18 := u17.trans u8 (Nat.le_refl _)
  refine g_call (Hin := [MkB mb p, Gr p V8]) (Hr := ?hr10) (R := ?rr10) rfl rfl rfl ?hin10 ?hc10 ?hk10
  case hin10 => repeat' (first | exact Cover.nil | exact Take.here | apply Cover.cons | apply Take.there)
  case hc10 => intro ρ' hρ hR; exact muxes_n mb p u8.wf hnl hr2' (by omega) (hls.mono hρ) (RSl.of_own (Take.ro (A := OwnSl 27 1 r2a 16 r2c (r2.map encI)) (by repeat' (first | exact Take.here | apply Take.there)) hR)) (d8.up u7.wf u8) (d.up hw u18) (d7.up u6.wf (u7.trans u8 (Nat.le_refl _)))
  rintro _ _ ⟨pa, pc, o2, V9, rfl, rfl, ho2, u9, d10⟩
  refine g_pure (p_assign rfl) rfl ?_
  refine g_pure (p_assign rfl) rfl ?_
  refine g_nil ?_
  refine g_qt ?_
  refine g_ret ?_
  refine g_post (rs := [.tmp 6, .tmp 7]) rfl (.tmp rfl (.tmp rfl .nil)) ⟨oa, oc, o1, pa, pc, o2, V9, rfl, rfl, ho1, ho2, u18.trans u9 (by omega), (d9.up u8.wf u9).congr fun i => ?_, d10.congr fun i => ?_⟩ (by repeat' (first | exact Cover.nil | exact Take.here | apply Cover.cons | apply Take.there))
  · unfold divisionF; simp only [hfl]
  · unfold divisionF; simp only [hfl]

theorem compare_ok (mb p : Nat) (hw : WF S) {n : Nat} {op : Int} (hop : 11 ≤ op ∧ op ≤ 16) (h0 : 0 < n) (hn : n ≤ 16) (h1 : ls.length = n) (h2 : ms.length = n) (hl : S.length + 5000 < 131072) (hls : RSl ρ 1 al n (ls.map encI)) (hms : RSl ρ 1 bl n (ms.map encI)) (d : DenL S ls f) (d' : DenL S ms g) :
    Con Try.prog ρ 100 #[.pointer (some ⟨mb, 0, none⟩), .int .i64 op, .slice al n cl, .slice bl n cm] [MkB mb p, Gr p S]
    (fun v H => ∃ l T, v = .int .i64 l ∧ H = [MkB mb p, Gr p T] ∧ Up S T (9 * n) ∧ Den T l (fun i => compareF op (f i) (g i))) := by
  refine con_intro Try.func100 Try.call100 rfl Try.ntmps100 rfl (L := [(0, _), (1, _), (2, _), (3, _)]) rfl fun w hh => ?_
  refine g_seq ?_
  refine g_region ?_
  refine g_pure (p_assign rfl) rfl ?_
  refine g_nil ?_
  refine g_qt ?_
  refine g_seq ?_
  refine g_seq ?_
  refine g_region ?_
  refine g_pure (p_move rfl) rfl ?_
  refine g_nil ?_
  refine g_qt ?_
  refine g_block ?_
  refine g_seq ?_
  refine g_region ?_
  refine g_pure (p_eql rfl rfl) rfl ?_
  refine g_pure (p_assign rfl) rfl ?_
  refine g_nil ?_
  refine g_qt ?_
  refine g_ifd rfl (fun a1 => ?_) (fun a1 => ?_)
  · subst a1
    refine g_seq ?_
    refine g_region ?_
    refine g_pure (p_move rfl) rfl ?_
    refine g_pure (p_move rfl) rfl ?_
    refine g_pure (p_move rfl) rfl ?_
    refine g_call (Hin := ?hi11) (Hr := ?hr11) (R := ?rr11) rfl rfl rfl ?hin11 ?hc11 ?hk11
    case hc11 => intro ρ' hρ hR; exact equal_n mb p hw h1 h2 (by omega) (hls.mono hρ) (hms.mono hρ) d d'
    case hin11 => repeat' (first | exact Cover.nil | exact Take.here | apply Cover.cons | apply Take.there)
    rintro _ _ ⟨l, T, rfl, rfl, u, d1⟩
    refine g_pure (p_assign rfl) rfl ?_
    refine g_nil ?_
    refine g_qt ?_
    refine g_ret ?_
    refine g_qb_ret ?_
    refine g_qt_ret ?_
    exact g_post (rs := [.tmp 8]) rfl (.tmp rfl .nil) ⟨l, T, rfl, rfl, ⟨u.wf, u.ext, by have := u.len; omega⟩, d1⟩ (by repeat' (first | exact Cover.nil | exact Take.here | apply Cover.cons | apply Take.there))
  · refine g_seq ?_
    refine g_region ?_
    refine g_pure (p_eql rfl rfl) rfl ?_
    refine g_pure (p_assign rfl) rfl ?_
    refine g_nil ?_
    refine g_qt ?_
    refine g_ifd rfl (fun a2 => ?_) (fun a2 => ?_)
    · subst a2
      refine g_seq ?_
      refine g_region ?_
      refine g_pure (p_move rfl) rfl ?_
      refine g_pure (p_move rfl) rfl ?_
      refine g_pure (p_move rfl) rfl ?_
      refine g_call (Hin := ?hi12) (Hr := ?hr12) (R := ?rr12) rfl rfl rfl ?hin12 ?hc12 ?hk12
      case hc12 => intro ρ' hρ hR; exact equal_n mb p hw h1 h2 (by omega) (hls.mono hρ) (hms.mono hρ) d d'
      case hin12 => repeat' (first | exact Cover.nil | exact Take.here | apply Cover.cons | apply Take.there)
      rintro _ _ ⟨l, T, rfl, rfl, u, d1⟩
      refine g_call (Hin := []) (Hr := ?hr13) (R := ?rr13) rfl rfl rfl ?hin13 ?hc13 ?hk13
      case hin13 => repeat' (first | exact Cover.nil | exact Take.here | apply Cover.cons | apply Take.there)
      case hc13 => intro ρ' hρ hR; exact bnot_ok (d1.i64 u.wf)
      rintro _ _ ⟨rfl, rfl⟩
      refine g_pure (p_assign rfl) rfl ?_
      refine g_nil ?_
      refine g_qt ?_
      refine g_ret ?_
      refine g_qb_ret ?_
      refine g_qt_ret ?_
      exact g_post (rs := [.tmp 8]) rfl (.tmp rfl .nil) ⟨nt l, T, rfl, rfl, ⟨u.wf, u.ext, by have := u.len; omega⟩, d1.not⟩ (by repeat' (first | exact Cover.nil | exact Take.here | apply Cover.cons | apply Take.there))
    · refine g_seq ?_
      refine g_region ?_
      refine g_pure (p_eql rfl rfl) rfl ?_
      refine g_pure (p_assign rfl) rfl ?_
      refine g_nil ?_
      refine g_qt ?_
      refine g_ifd rfl (fun a3 => ?_) (fun a3 => ?_)
      · subst a3
        refine g_seq ?_
        refine g_region ?_
        refine g_pure (p_move rfl) rfl ?_
        refine g_pure (p_move rfl) rfl ?_
        refine g_pure (p_move rfl) rfl ?_
        refine g_call (Hin := ?hi14) (Hr := ?hr14) (R := ?rr14) rfl rfl rfl ?hin14 ?hc14 ?hk14
        case hc14 => intro ρ' hρ hR; exact less_n mb p hw h1 h2 h0 (by omega) (by omega) (hls.mono hρ) (hms.mono hρ) d d'
        case hin14 => repeat' (first | exact Cover.nil | exact Take.here | apply Cover.cons | apply Take.there)
        rintro _ _ ⟨l, T, rfl, rfl, u, d1⟩
        refine g_pure (p_assign rfl) rfl ?_
        refine g_nil ?_
        refine g_qt ?_
        refine g_ret ?_
        refine g_qb_ret ?_
        refine g_qt_ret ?_
        exact g_post (rs := [.tmp 8]) rfl (.tmp rfl .nil) ⟨l, T, rfl, rfl, u, d1⟩ (by repeat' (first | exact Cover.nil | exact Take.here | apply Cover.cons | apply Take.there))
      · refine g_seq ?_
        refine g_region ?_
        refine g_pure (p_eql rfl rfl) rfl ?_
        refine g_pure (p_assign rfl) rfl ?_
        refine g_nil ?_
        refine g_qt ?_
        refine g_ifd rfl (fun a4 => ?_) (fun a4 => ?_)
        · subst a4
          refine g_seq ?_
          refine g_region ?_
          refine g_pure (p_move rfl) rfl ?_
          refine g_pure (p_move rfl) rfl ?_
          refine g_pure (p_move rfl) rfl ?_
          refine g_call (Hin := ?hi15) (Hr := ?hr15) (R := ?rr15) rfl rfl rfl ?hin15 ?hc15 ?hk15
          case hc15 => intro ρ' hρ hR; exact less_n mb p hw h2 h1 h0 (by omega) (by omega) (hms.mono hρ) (hls.mono hρ) d' d
          case hin15 => repeat' (first | exact Cover.nil | exact Take.here | apply Cover.cons | apply Take.there)
          rintro _ _ ⟨l, T, rfl, rfl, u, d1⟩
          refine g_call (Hin := []) (Hr := ?hr16) (R := ?rr16) rfl rfl rfl ?hin16 ?hc16 ?hk16
          case hin16 => repeat' (first | exact Cover.nil | exact Take.here | apply Cover.cons | apply Take.there)
          case hc16 => intro ρ' hρ hR; exact bnot_ok (d1.i64 u.wf)
          rintro _ _ ⟨rfl, rfl⟩
          refine g_pure (p_assign rfl) rfl ?_
          refine g_nil ?_
          refine g_qt ?_
          refine g_ret ?_
          refine g_qb_ret ?_
          refine g_qt_ret ?_
          exact g_post (rs := [.tmp 8]) rfl (.tmp rfl .nil) ⟨nt l, T, rfl, rfl, u, d1.not⟩ (by repeat' (first | exact Cover.nil | exact Take.here | apply Cover.cons | apply Take.there))
        · refine g_seq ?_
          refine g_region ?_
          refine g_pure (p_eql rfl rfl) rfl ?_
          refine g_pure (p_assign rfl) rfl ?_
          refine g_nil ?_
          refine g_qt ?_
          refine g_ifd rfl (fun a5 => ?_) (fun a5 => ?_)
          · subst a5
            refine g_seq ?_
            refine g_region ?_
            refine g_pure (p_move rfl) rfl ?_
            refine g_pure (p_move rfl) rfl ?_
            refine g_pure (p_move rfl) rfl ?_
            refine g_call (Hin := ?hi17) (Hr := ?hr17) (R := ?rr17) rfl rfl rfl ?hin17 ?hc17 ?hk17
            case hc17 => intro ρ' hρ hR; exact less_n mb p hw h2 h1 h0 (by omega) (by omega) (hms.mono hρ) (hls.mono hρ) d' d
            case hin17 => repeat' (first | exact Cover.nil | exact Take.here | apply Cover.cons | apply Take.there)
            rintro _ _ ⟨l, T, rfl, rfl, u, d1⟩
            refine g_pure (p_assign rfl) rfl ?_
            refine g_nil ?_
            refine g_qt ?_
            refine g_ret ?_
            refine g_qb_ret ?_
            refine g_qt_ret ?_
            exact g_post (rs := [.tmp 8]) rfl (.tmp rfl .nil) ⟨l, T, rfl, rfl, u, d1⟩ (by repeat' (first | exact Cover.nil | exact Take.here | apply Cover.cons | apply Take.there))
          · obtain rfl : op = 16 := by omega
            refine g_skip ?_
            refine g_qb ?_
            refine g_qt ?_
            refine g_seq ?_
            refine g_region ?_
            refine g_pure (p_move rfl) rfl ?_
            refine g_pure (p_move rfl) rfl ?_
            refine g_pure (p_move rfl) rfl ?_
            refine g_call (Hin := ?hi18) (Hr := ?hr18) (R := ?rr18) rfl rfl rfl ?hin18 ?hc18 ?hk18
            case hc18 => intro ρ' hρ hR; exact less_n mb p hw h1 h2 h0 (by omega) (by omega) (hls.mono hρ) (hms.mono hρ) d d'
            case hin18 => repeat' (first | exact Cover.nil | exact Take.here | apply Cover.cons | apply Take.there)
            rintro _ _ ⟨l, T, rfl, rfl, u, d1⟩
            refine g_call (Hin := []) (Hr := ?hr19) (R := ?rr19) rfl rfl rfl ?hin19 ?hc19 ?hk19
            case hin19 => repeat' (first | exact Cover.nil | exact Take.here | apply Cover.cons | apply Take.there)
            case hc19 => intro ρ' hρ hR; exact bnot_ok (d1.i64 u.wf)
            rintro _ _ ⟨rfl, rfl⟩
            refine g_pure (p_assign rfl) rfl ?_
            refine g_nil ?_
            refine g_qt ?_
            refine g_ret ?_
            exact g_post (rs := [.tmp 8]) rfl (.tmp rfl .nil) ⟨nt l, T, rfl, rfl, u, d1.not⟩ (by repeat' (first | exact Cover.nil | exact Take.here | apply Cover.cons | apply Take.there))
end Go.Proofs.Ytkebblmmgcgjkaa
/- Chapter 38: growing and joining slices; the operators, rooms, attempts. Conditions: none. -/
namespace Go.Z
set_option maxRecDepth 8000
set_option linter.unusedVariables false
set_option linter.unusedSimpArgs false
set_option linter.unusedSectionVars false
open Go
section
variable {P : Program} {n : Nat} {L : Fr} {H H' : List Assn} {M : Mx}
variable {dd : Option Tmp} {ty t : TypeId} {ps : String} {af : Array Edge} {gd : Option (Nat × Bool)} {x y : Operand}
theorem p_cap {len cap : Nat} {e : TypeId} {ad : Option Addr} {yt : Ty} [ht : TyC P t yt] (hd : yt.d = .slice e) (h1 : ev L x = some (.slice ad len cap)) :
    Pur P M n L H ⟨dd, .call ⟨.builtin .cap, #[x], #[t]⟩, ty, ps, af, gd⟩ (.int .i64 cap) := fun a w ha _ => by
  simp [execOp, resolve, invoke, builtin, Builtin.cap_, ha.ev h1, ht.run_u, hd, goInt]
theorem run_append_made {w : World} (t tx ty e : TypeId) (i : TypeInfo) (z : Value) (ht : P.underlying t = some (.slice e)) (hx : P.underlying tx = some (.int .i64)) (hi : P.info? e = some i) (hz : i.zero = some z) (hs : i.size ≠ 0)
    (m : Nat) (h0 : 0 < m) (h63 : (m : Int) ≤ 9223372036854775807) (h48 : m * i.bytes ≤ 281474976710656) :
    (Builtin.append_ #[t, tx] ty #[.slice none 0 0, .int .i64 m]).run P w =
      .ok (.slice (some ⟨w.heap.size, 0, none⟩) m (grownCap w m 0 e)) (w.drew.alloc (.cells (Builtin.zeroCells z.cells m ++ Builtin.zeroCells z.cells (grownCap w m 0 e - m)) e)) := by
  have hm : m ≠ 0 := by omega
  have h63' : ¬ (9223372036854775807 < (m : Int)) := by omega
  have h48' : ¬ (281474976710656 < Builtin.nextslicecap m 0 * i.bytes) := by rw [nextslicecap_zero h0]; omega
  have hw : IntKind.i64.wrap (m : Int) = m := i64_in (by omega) (by omega)
  have hb : ¬ (281474976710656 < (m : Int) * (i.bytes : Int)) := by rw [← Int.natCast_mul]; omega
  have hneg : ¬ ((m : Int) < 0) := by omega
  have hms : m * i.size ≠ 0 := Nat.mul_ne_zero hm hs
  simp [hms, Builtin.append_, run_underlying ht, run_underlying hx, sizeOf, typeInfo, zeroValue, hi, hz, hm, hw, hb, hneg, h63', h48', Question.forced, run_firstCells_none, newRow, grownCap, asInt, asIntOf, hs]
theorem e_made {e : TypeId} {ye : Ty} {tx : TypeId} {yx : Ty} {m : Nat} [hsl : SlC P t e ye] [hx : TyC P tx yx] (hxd : yx.d = .int .i64) (hz : ye.zero.cells.size = ye.size) (hs0 : Nat.blt 0 ye.size = true)
    (h1 : ev L x = some (.slice none 0 0)) (h2 : ev L y = some (.int .i64 m)) (h0 : 0 < m) (hb : m * ye.bytes ≤ 140737488355328) (h63 : m ≤ 9223372036854775807) :
    Eff P M n L H ⟨dd, .call ⟨.builtin .append, #[x, y], #[t, tx]⟩, ty, ps, af, gd⟩ (fun v H2 => ∃ a2 c2 zs, v = .slice a2 m c2 ∧ H2 = OwnSl e ye.size a2 m c2 zs :: H) :=
  Eff.of_run fun a w ha hm => by
    obtain ⟨yt, ht, hd⟩ := hsl.t
    have he := hsl.e
    have hs0' : 0 < ye.size := by simpa using hs0
    obtain ⟨i, hri, hib, his, hi, hiz⟩ := he.run_info
    have ht' : P.underlying t = some (.slice e) := by rw [ht.u, hd]
    have hx' : P.underlying tx = some (.int .i64) := by rw [hx.u, hxd]
    have hr := run_append_made (P := P) (w := w) t tx ty e i ye.zero ht' hx' hi hiz (by omega) m h0 (by omega) (by rw [hib]; omega)
    have hexec : ∀ (r : Result Value), (Builtin.append_ #[t, tx] ty #[.slice none 0 0, .int .i64 m]).run P w = r →
        (execOp a.eval ⟨dd, .call ⟨.builtin .append, #[x, y], #[t, tx]⟩, ty, ps, af, gd⟩).run P w = r.andThen fun v w => .ok (.value v) w := fun r hr => by
      simp [execOp, resolve, invoke, builtin, ha.ev h1, ha.ev h2, hr]
    refine ⟨_, _, _, hexec _ hr, ⟨_, _, (Builtin.zeroCells ye.zero.cells m).toList, rfl, rfl⟩, ?_⟩
    have := (hm.drawn (w.drawn + 1)).alloc (.cells ((Builtin.zeroCells ye.zero.cells m).toList ++ (Builtin.zeroCells ye.zero.cells (grownCap w m 0 e - m)).toList).toArray e (0, 0))
    have hge := grownCap_ge w m 0 e
    have hcm : grownCap w m 0 e ≤ maxLen := grownCap_le_maxLen w m 0 e (by simp only [maxLen]; omega)
    have hw := this.weaken (B := OwnSl e ye.size (some ⟨w.heap.size, 0, none⟩) m (grownCap w m 0 e) (Builtin.zeroCells ye.zero.cells m).toList) (fun kk hk => by
      have e1 : kk = one w.heap.size _ := hk
      have hl1 : (Builtin.zeroCells ye.zero.cells m).toList.length = m * ye.size := by rw [Array.length_toList, size_zeroCells, hz]
      rw [e1]
      refine ⟨hl1, .inr ⟨_, _, rfl, hge, hcm, ?_, ?_, rfl⟩⟩
      · rw [List.length_append, hl1, Array.length_toList, size_zeroCells, hz, ← Nat.add_mul]; congr 1; omega
      · rw [← hl1]; exact List.take_left)
    have e9 : ((Builtin.zeroCells ye.zero.cells m).toList ++ (Builtin.zeroCells ye.zero.cells (grownCap w m 0 e - m)).toList).toArray = Builtin.zeroCells ye.zero.cells m ++ Builtin.zeroCells ye.zero.cells (grownCap w m 0 e - m) := by
      apply Array.ext'; simp
    rw [e9] at hw
    exact hw
end
end Go.Z
namespace Go.Proofs.Ytkebblmmgcgjkaa
set_option maxRecDepth 8000
set_option linter.unusedVariables false
set_option linter.unusedSimpArgs false
set_option linter.unusedSectionVars false
open Go Go.Z Go.Z.Aig Go.Z.Bit

theorem grow_ok {ρ : Nat → Obj → Prop} (m : Nat) (hm : m ≤ 1000000000000) : Con Try.prog ρ 90 #[.slice none 0 0, .int .i64 m] [] (fun v H => ∃ a c, v = .slice a 0 c ∧ H = [OwnSl 27 1 a 0 c []]) := by
  refine con_intro Try.func90 Try.call90 rfl Try.ntmps90 rfl (L := [(0, _), (1, _)]) rfl fun w hh => ?_
  refine g_seq ?_
  refine g_region ?_
  refine g_pure (p_assign rfl) rfl ?_
  refine g_nil ?_
  refine g_qt ?_
  refine g_seq ?_
  refine g_seq ?_
  refine g_region ?_
  refine g_pure (p_move rfl) rfl ?_
  refine g_pure (p_lss rfl rfl) rfl ?_
  refine g_nil ?_
  refine g_qt ?_
  refine g_iff rfl ?_
  refine g_skip ?_
  refine g_qt ?_
  refine g_seq ?_
  refine g_seq ?_
  refine g_region ?_
  refine g_pure (p_move rfl) rfl ?_
  refine g_pure (p_move rfl) rfl ?_
  refine g_pure (p_cap (by rfl) rfl) rfl ?_
  refine g_pure (p_move rfl) rfl ?_
  refine g_pure (p_len (by rfl) rfl) rfl ?_
  first | refine g_pure (p_subi rfl rfl (by omega)) rfl ?_ | refine g_pure (p_sub rfl rfl) rfl ?_
  first | refine g_pure (p_subi rfl rfl (by omega)) rfl ?_ | refine g_pure (p_sub rfl rfl) rfl ?_
  refine g_pure (p_assign rfl) rfl ?_
  refine g_nil ?_
  refine g_qt ?_
  refine g_seq ?_
  refine g_region ?_
  refine g_pure (p_move rfl) rfl ?_
  refine g_pure (p_gtr rfl rfl) rfl ?_
  refine g_nil ?_
  refine g_qt ?_
  rcases Nat.eq_zero_or_pos m with rfl | h0
  · refine g_ownnil (e := 27) (size := 1) ?_
    refine g_iff rfl ?_
    refine g_skip ?_
    refine g_qt ?_
    refine g_seq ?_
    refine g_region ?_
    refine g_pure (p_move rfl) rfl ?_
    refine g_pure (p_assign rfl) rfl ?_
    refine g_nil ?_
    refine g_qt ?_
    refine g_ret ?_
    exact g_post (rs := [.tmp 4]) rfl (.tmp rfl .nil) ⟨none, 0, rfl, rfl⟩ (by repeat' (first | exact Cover.nil | exact Take.here | apply Cover.cons | apply Take.there))
  · refine g_ifd rfl (fun h => ?_) (fun h => ?_)
    · refine g_region ?_
      refine g_pure (p_move rfl) rfl ?_
      refine g_pure (p_move rfl) rfl ?_
      refine g_pure (p_cap (by rfl) rfl) rfl ?_
      refine g_pure (p_sliceh rfl rfl (by omega)) rfl ?_
      refine g_pure (p_move rfl) rfl ?_
      refine g_eff (e_made (m := m) (by rfl) (by rfl) (by rfl) rfl (by show some (Value.int .i64 ((m : Int) - (((0 : Nat) : Int) - ((0 : Nat) : Int)))) = some _; congr 2) h0 (by dsimp only; omega) (by omega)) rfl (fun _ _ => ?_)
      rintro ⟨a22, c22, zs, rfl, rfl⟩
      refine g_pure (p_move rfl) rfl ?_
      refine g_pure (p_len (by rfl) rfl) rfl ?_
      refine g_pure (p_sliceh rfl rfl (by omega)) rfl ?_
      refine g_pure (p_assign rfl) rfl ?_
      refine g_nil ?_
      refine g_qt ?_
      refine g_seq ?_
      refine g_region ?_
      refine g_pure (p_move rfl) rfl ?_
      refine g_pure (p_assign rfl) rfl ?_
      refine g_nil ?_
      refine g_qt ?_
      refine g_ret ?_
      refine g_weak (A := OwnSl 27 1 a22 m c22 zs) (B := OwnSl 27 1 a22 0 c22 []) (by repeat' (first | exact Take.here | apply Take.there)) (fun h hh => by
        have := own_shrink (m := 0) (by omega) h hh
        rwa [Nat.zero_mul, List.take_zero] at this) ?_
      exact g_post (rs := [.tmp 4]) rfl (.tmp rfl .nil) ⟨a22, c22, rfl, rfl⟩ (by repeat' (first | exact Cover.nil | exact Take.here | apply Cover.cons | apply Take.there))
    · exact absurd h (by simp; omega)

theorem lrd2 {ρ : Nat → Obj → Prop} {al : Option Addr} {lss : List (List Int)} (h : RSl2 ρ al (lss.map (·.map encI))) : ∃ b off cs T fz, 0 < lss.length → al = some ⟨b, off, none⟩ ∧ ρ b (.cells (cs : List Value).toArray T fz) ∧ ∀ j (hj : j < lss.length), ∃ ai ci, cs[off + j * 1]? = some (.slice ai lss[j].length ci) ∧ RSl ρ 1 ai lss[j].length (lss[j].map encI) := by
  by_cases h0 : 0 < lss.length
  · obtain ⟨b, off, cs, T, fz, h1, h2, h3⟩ := h.at (by rw [List.length_map]; exact h0)
    refine ⟨b, off, cs, T, fz, fun _ => ⟨h1, h2, fun j hj => ?_⟩⟩
    obtain ⟨ai, ci, e1, e2⟩ := h3 j (by rw [List.length_map]; exact hj)
    rw [List.getElem_map, List.length_map] at e1
    rw [List.getElem_map, List.length_map] at e2
    exact ⟨ai, ci, by rw [Nat.mul_one]; exact e1, e2⟩
  · exact ⟨0, 0, [], 0, (0, 0), fun h => absurd h h0⟩
theorem flat_succ {lss : List (List Int)} {k : Nat} (hk : k < lss.length) : (lss.take (k + 1)).flatten = (lss.take k).flatten ++ lss[k] := by
  rw [List.take_add_one, List.getElem?_eq_getElem hk, Option.toList_some, List.flatten_append]; simp
theorem flat_le (lss : List (List Int)) (k : Nat) : (lss.take k).flatten.length ≤ lss.flatten.length := by
  conv => rhs; rw [← List.take_append_drop k lss, List.flatten_append, List.length_append]
  omega

theorem concat_ok {ρ : Nat → Obj → Prop} {al : Option Addr} {cl : Nat} {lss : List (List Int)} (hr : RSl2 ρ al (lss.map (·.map encI))) (h1 : lss.flatten.length ≤ 1000000000000) (h2 : lss.length ≤ 1000000000000) :
    Con Try.prog ρ 62 #[.slice al lss.length cl] [] (fun v H => ∃ a c, v = .slice a lss.flatten.length c ∧ H = [OwnSl 27 1 a lss.flatten.length c (lss.flatten.map encI)]) := by
  obtain ⟨b1, o1, cs1, T1, fz1, hrd⟩ := lrd2 hr
  refine con_intro Try.func62 Try.call62 rfl Try.ntmps62 rfl (L := [(0, _)]) rfl fun w hh => ?_
  refine g_seq ?_
  refine g_region ?_
  refine g_pure (p_assign rfl) rfl ?_
  refine g_nil ?_
  refine g_qt ?_
  refine g_seq ?_
  refine g_region ?_
  refine g_pure (p_assign rfl) rfl ?_
  refine g_nil ?_
  refine g_qt ?_
  refine g_seq ?_
  refine g_seq ?_
  refine g_region ?_
  refine g_pure (p_move rfl) rfl ?_
  refine g_pure (p_len (by rfl) rfl) rfl ?_
  refine g_pure (p_move rfl) rfl ?_
  refine g_nil ?_
  refine g_qt ?_
  refine g_block ?_
  refine g_loop (fun k : Nat => [(0, .slice al lss.length cl), (3, .int .i64 ((lss.take k).flatten.length : Int)), (9, .slice al lss.length cl), (10, .int .i64 lss.length), (11, .int .i64 k)])
    (fun _ => []) (fun k => k ≤ lss.length) (fun k => lss.length - k) 0 (Nat.zero_le _) (by (repeat (first | exact trivial | refine ⟨by rfl, ?_⟩)); done) .nil fun k hk => ?_
  refine g_seq ?_
  refine g_region ?_
  refine g_pure (p_lss rfl rfl) rfl ?_
  refine g_nil ?_
  refine g_qt ?_
  refine g_seq ?_
  refine g_ifd rfl (fun q => ?_) (fun q => ?_)
  · have hkl : k < lss.length := by omega
    obtain ⟨r1, r2, r3⟩ := hrd (by omega)
    obtain ⟨ai, ci, e1, e2⟩ := r3 k hkl
    have hf := flat_succ hkl
    have hfl := flat_le lss (k + 1)
    have hfl' := congrArg List.length hf
    rw [List.length_append] at hfl'
    refine g_skip ?_
    refine g_qt ?_
    refine g_seq ?_
    refine g_block ?_
    refine g_seq ?_
    refine g_region ?_
    refine g_pure (p_indexAddr rfl rfl (by omega) (fun _ => r1)) rfl ?_
    refine g_pure (p_load (by rfl) rfl (Has.ro r2) e1) rfl ?_
    refine g_pure (p_assign rfl) rfl ?_
    refine g_nil ?_
    refine g_qt ?_
    refine g_seq ?_
    refine g_region ?_
    refine g_pure (p_move rfl) rfl ?_
    refine g_pure (p_move rfl) rfl ?_
    refine g_pure (p_len (by rfl) rfl) rfl ?_
    first | refine g_pure (p_addi rfl rfl (by omega)) rfl ?_ | refine g_pure (p_add rfl rfl) rfl ?_
    refine g_pure (p_assign rfl) rfl ?_
    refine g_nil ?_
    refine g_qt ?_
    refine g_seq ?_
    refine g_region ?_
    refine g_pure (p_move rfl) rfl ?_
    refine g_pure (p_lss rfl rfl) rfl ?_
    refine g_nil ?_
    refine g_qt ?_
    refine g_ifd rfl (fun q2 => ?_) (fun q2 => ?_)
    · exfalso; omega
    · refine g_skip ?_
      refine g_qb ?_
      refine g_qt ?_
      refine g_region ?_
      first | refine g_pure (p_addi rfl rfl (by omega)) rfl ?_ | refine g_pure (p_add rfl rfl) rfl ?_
      refine g_pure (p_move rfl) rfl ?_
      refine g_nil ?_
      refine g_qn ?_
      have e3 : (((lss.take k).flatten.length : Int) + (lss[k].length : Int)) = ((lss.take (k + 1)).flatten.length : Int) := by omega
      rw [e3]
      exact g_next (k + 1) (by (repeat (first | exact trivial | refine ⟨by rfl, ?_⟩)); done) .nil (by omega) (by omega)
  · have hke : k = lss.length := by omega
    subst hke
    rw [List.take_of_length_le (Nat.le_refl _)]
    refine g_exit ?_
    refine g_qt_exit ?_
    refine g_qn_exit ?_
    refine g_qb_exit ?_
    refine g_qt ?_
    refine g_seq ?_
    refine g_region ?_
    refine g_pure (p_move rfl) rfl ?_
    refine g_call (Hin := []) (Hr := ?hr1) (R := ?rr1) rfl rfl rfl ?hin1 ?hc1 ?hk1
    case hin1 => repeat' (first | exact Cover.nil | exact Take.here | apply Cover.cons | apply Take.there)
    case hc1 => intro ρ' hρ hR; exact grow_ok lss.flatten.length h1
    rintro _ _ ⟨ga, gc, rfl, rfl⟩
    refine g_pure (p_assign rfl) rfl ?_
    refine g_nil ?_
    refine g_qt ?_
    refine g_seq ?_
    refine g_seq ?_
    refine g_region ?_
    refine g_pure (p_move rfl) rfl ?_
    refine g_pure (p_len (by rfl) rfl) rfl ?_
    refine g_pure (p_move rfl) rfl ?_
    refine g_nil ?_
    refine g_qt ?_
    refine g_block ?_
    refine g_loop (fun q : Nat × Option Addr × Nat => [(0, .slice al lss.length cl), (6, .slice q.2.1 (lss.take q.1).flatten.length q.2.2), (25, .slice al lss.length cl), (26, .int .i64 lss.length), (27, .int .i64 q.1)])
      (fun q => [OwnSl 27 1 q.2.1 (lss.take q.1).flatten.length q.2.2 ((lss.take q.1).flatten.map encI)]) (fun q => q.1 ≤ lss.length) (fun q => lss.length - q.1) (0, ga, gc) (Nat.zero_le _) (by (repeat (first | exact trivial | refine ⟨by rfl, ?_⟩)); done) (by repeat' (first | exact Cover.nil | exact Take.here | apply Cover.cons | apply Take.there)) ?_
    rintro ⟨k, oa, oc⟩ hk
    dsimp only at hk ⊢
    refine g_seq ?_
    refine g_region ?_
    refine g_pure (p_lss rfl rfl) rfl ?_
    refine g_nil ?_
    refine g_qt ?_
    refine g_seq ?_
    refine g_ifd rfl (fun q3 => ?_) (fun q3 => ?_)
    · have hkl : k < lss.length := by omega
      obtain ⟨r1, r2, r3⟩ := hrd (by omega)
      obtain ⟨ai, ci, e1, e2⟩ := r3 k hkl
      have hf := flat_succ hkl
      have hfl := flat_le lss (k + 1)
      rw [hf, List.length_append] at hfl
      rcases Nat.eq_zero_or_pos lss[k].length with h0 | h0
      · have hn : lss[k] = [] := List.eq_nil_of_length_eq_zero h0
        rw [h0] at e1
        refine g_cap (e := 27) (size := 1) (a1 := oa) (k := (lss.take k).flatten.length) (cap := oc) (xs := (lss.take k).flatten.map encI) (by repeat' (first | exact Take.here | apply Take.there)) fun hcap _ => ?_
        refine g_skip ?_
        refine g_qt ?_
        refine g_seq ?_
        refine g_block ?_
        refine g_seq ?_
        refine g_region ?_
        refine g_pure (p_indexAddr rfl rfl (by omega) (fun _ => r1)) rfl ?_
        refine g_pure (p_load (by rfl) rfl (Has.ro r2) e1) rfl ?_
        refine g_pure (p_assign rfl) rfl ?_
        refine g_nil ?_
        refine g_qt ?_
        refine g_region ?_
        refine g_pure (p_move rfl) rfl ?_
        refine g_pure (p_move rfl) rfl ?_
        refine g_eff (e_append0 rfl rfl hcap) rfl (fun _ _ => ?_)
        rintro ⟨rfl, rfl⟩
        refine g_pure (p_assign rfl) rfl ?_
        refine g_nil ?_
        refine g_qb ?_
        refine g_qt ?_
        refine g_region ?_
        first | refine g_pure (p_addi rfl rfl (by omega)) rfl ?_ | refine g_pure (p_add rfl rfl) rfl ?_
        refine g_pure (p_move rfl) rfl ?_
        refine g_nil ?_
        refine g_qn ?_
        have e4 : (lss.take k).flatten = (lss.take (k + 1)).flatten := by rw [hf, hn, List.append_nil]
        rw [e4]
        exact g_next (k + 1, oa, oc) (by (repeat (first | exact trivial | refine ⟨by rfl, ?_⟩)); done) (by repeat' (first | exact Cover.nil | exact Take.here | apply Cover.cons | apply Take.there)) (by dsimp only; omega) (by dsimp only; omega)
      · obtain ⟨hel, bb, oo, cc, TT, zz, hb⟩ := e2
        obtain ⟨b1', b2', b3'⟩ := hb h0
        subst b1'
        have hsub : sub cc oo (lss[k].length * 1) = some (lss[k].map encI) := by
          have := sub_of (o := oo) (i := 0) (k := lss[k].length) b3' h0 (by rw [List.length_map]; omega)
          rw [List.drop_zero, List.take_of_length_le (by rw [List.length_map]; omega)] at this
          rw [Nat.mul_one]; exact this
        have hone : one1 (lss[k].map encI) = true := by unfold one1; rw [List.all_eq_true]; intro v hv; obtain ⟨y, _, rfl⟩ := List.mem_map.1 hv; rfl
        refine g_skip ?_
        refine g_qt ?_
        refine g_seq ?_
        refine g_block ?_
        refine g_seq ?_
        refine g_region ?_
        refine g_pure (p_indexAddr rfl rfl (by omega) (fun _ => r1)) rfl ?_
        refine g_pure (p_load (by rfl) rfl (Has.ro r2) e1) rfl ?_
        refine g_pure (p_assign rfl) rfl ?_
        refine g_nil ?_
        refine g_qt ?_
        refine g_region ?_
        refine g_pure (p_move rfl) rfl ?_
        refine g_pure (p_move rfl) rfl ?_
        refine g_eff (e_append rfl rfl rfl rfl (Has.ro b2') hsub hone (by repeat' (first | exact Take.here | apply Take.there)) h0 (by dsimp only; omega) (by omega)) rfl (fun _ _ => ?_)
        rintro ⟨a33, c33, rfl, rfl⟩
        refine g_pure (p_assign rfl) rfl ?_
        refine g_nil ?_
        refine g_qb ?_
        refine g_qt ?_
        refine g_region ?_
        first | refine g_pure (p_addi rfl rfl (by omega)) rfl ?_ | refine g_pure (p_add rfl rfl) rfl ?_
        refine g_pure (p_move rfl) rfl ?_
        refine g_nil ?_
        refine g_qn ?_
        have e4 : (lss.take k).flatten.map encI ++ lss[k].map encI = (lss.take (k + 1)).flatten.map encI := by rw [hf, List.map_append]
        have e5 : (lss.take k).flatten.length + lss[k].length = (lss.take (k + 1)).flatten.length := by rw [hf, List.length_append]
        rw [e4, e5]
        exact g_next (k + 1, a33, c33) (by (repeat (first | exact trivial | refine ⟨by rfl, ?_⟩)); done) (by repeat' (first | exact Cover.nil | exact Take.here | apply Cover.cons | apply Take.there)) (by dsimp only; omega) (by dsimp only; omega)
    · have hke : k = lss.length := by omega
      subst hke
      rw [List.take_of_length_le (Nat.le_refl _)]
      refine g_exit ?_
      refine g_qt_exit ?_
      refine g_qn_exit ?_
      refine g_qb_exit ?_
      refine g_qt ?_
      refine g_seq ?_
      refine g_region ?_
      refine g_pure (p_move rfl) rfl ?_
      refine g_pure (p_assign rfl) rfl ?_
      refine g_nil ?_
      refine g_qt ?_
      refine g_ret ?_
      exact g_post (rs := [.tmp 2]) rfl (.tmp rfl .nil) ⟨oa, oc, rfl, rfl⟩ (by repeat' (first | exact Cover.nil | exact Take.here | apply Cover.cons | apply Take.there))

theorem belong1_ok {ρ : Nat → Obj → Prop} (p b2 : Nat) (S : St) (a : Int) (ha : I64 a) (hg : Ro ρ (Gr p S)) (hb : ρ b2 (.cells [.pointer (some ⟨p, 0, none⟩)].toArray 24 (0, 0))) :
    Con Try.prog ρ 89 #[.int .i64 a, .pointer (some ⟨b2, 0, none⟩)] [] (fun v H => v = .bool (!hasB S a) ∧ H = []) := by
  obtain ⟨av, cv, ai, ci, mb, kn, hp, hv, hi, hm, hw, hk⟩ := gr_ro hg
  have hlim := hw.lim
  unfold I64 at ha
  refine con_intro Try.func89 Try.call89 rfl Try.ntmps89 rfl (L := [(0, _), (1, _)]) rfl fun w hh => ?_
  refine g_seq ?_
  refine g_region ?_
  refine g_pure (p_assign rfl) rfl ?_
  refine g_nil ?_
  refine g_qt ?_
  refine g_seq ?_
  refine g_region ?_
  refine g_pure (p_move rfl) rfl ?_
  refine g_pure (p_lss rfl rfl) rfl ?_
  refine g_pure (p_move rfl) rfl ?_
  refine g_splitd rfl rfl (fun h1 => ?_) (fun h1 => ?_)
  · refine g_no rfl rfl rfl rfl ?_
    refine g_no rfl rfl rfl rfl ?_
    refine g_no rfl rfl rfl rfl ?_
    refine g_no rfl rfl rfl rfl ?_
    refine g_no rfl rfl rfl rfl ?_
    first | refine g_pure (p_pickt rfl rfl) rfl ?_ | refine g_pure (p_pickf rfl rfl) rfl ?_
    refine g_pure (p_assign rfl) rfl ?_
    refine g_nil ?_
    refine g_qt ?_
    refine g_ret ?_
    refine g_post (rs := [.tmp 3]) rfl (.tmp rfl .nil) ⟨?_, rfl⟩ .nil
    show Value.bool _ = Value.bool _
    congr 1
    unfold hasB; simp; omega
  · refine g_yes rfl rfl ?_
    refine g_pure (p_move rfl) rfl ?_
    refine g_yes rfl rfl ?_
    first | refine g_pure (p_quon rfl rfl (by omega) (by omega)) rfl ?_ | refine g_pure (p_quoi rfl rfl (by omega) (by omega)) rfl ?_ | refine g_pure (p_quo rfl rfl (by omega)) rfl ?_
    refine g_yes rfl rfl ?_
    refine g_pure (p_load (by rfl) rfl (by first | (apply Has.own; (repeat' (first | exact Take.here | apply Take.there)); done) | exact Has.ro (by assumption)) (by first | rfl | assumption)) rfl ?_
    refine g_yes rfl rfl ?_
    refine g_call (Hin := []) (Hr := ?hr2) (R := ?rr2) rfl rfl rfl ?hin2 ?hc2 ?hk2
    case hin2 => repeat' (first | exact Cover.nil | exact Take.here | apply Cover.cons | apply Take.there)
    case hc2 => intro ρ' hρ hR; exact glen_ok p S (hg.mono hρ)
    rintro _ _ ⟨rfl, rfl⟩
    refine g_yes rfl rfl ?_
    refine g_pure (p_geq rfl rfl) rfl ?_
    first | refine g_pure (p_pickt rfl rfl) rfl ?_ | refine g_pure (p_pickf rfl rfl) rfl ?_
    refine g_pure (p_assign rfl) rfl ?_
    refine g_nil ?_
    refine g_qt ?_
    refine g_ret ?_
    refine g_post (rs := [.tmp 3]) rfl (.tmp rfl .nil) ⟨?_, rfl⟩ .nil
    show Value.bool _ = Value.bool _
    congr 1
    unfold hasB
    by_cases h2 : (S.length : Int) ≤ a / 2 <;> simp [h2] <;> omega
theorem belong_ok {ρ : Nat → Obj → Prop} {p : Nat} {S : St} {al : Option Addr} {cl : Nat} {ls : List Int} (hl : RSl ρ 1 al ls.length (ls.map encI)) (hlen : ls.length ≤ 9223372036854775807) (hr : ∀ l ∈ ls, I64 l) (hg : Ro ρ (Gr p S)) :
    Con Try.prog ρ 61 #[.pointer (some ⟨p, 0, none⟩), .slice al ls.length cl] [] (fun v H => v = .bool (ls.all (hasB S)) ∧ H = []) := by
  refine con_intro Try.func61 Try.call61 rfl Try.ntmps61 rfl (L := [(0, _), (1, _)]) rfl fun w hh => ?_
  refine g_seq ?_
  refine g_region ?_
  refine g_eff (e_box rfl (by rfl)) rfl (fun _ _ => ?_)
  rintro ⟨b2, rfl, rfl⟩
  refine g_pure (p_assign rfl) rfl ?_
  refine g_nil ?_
  refine g_qt ?_
  refine g_seq ?_
  refine g_region ?_
  refine g_pure (p_move rfl) rfl ?_
  refine g_pure (p_makeFunc rfl rfl) rfl ?_
  refine g_call (Hin := []) (Hr := ?hr3) (R := ?rr3) rfl rfl rfl ?hin3 ?hc3 ?hk3
  case hin3 => repeat' (first | exact Cover.nil | exact Take.here | apply Cover.cons | apply Take.there)
  case hc3 => intro ρ' hρ hR; exact contains_ok al cl ls (hl.mono hρ) hlen 89 #[.pointer (some ⟨b2, 0, none⟩)] (fun a => !hasB S a) (fun l h1 ρ2 h2 => belong1_ok p b2 S l (hr l h1) (hg.mono fun b o h => h2 _ _ (hρ _ _ h)) (h2 _ _ hR.1.blk))
  rintro _ _ ⟨rfl, rfl⟩
  refine g_pure (p_not rfl) rfl ?_
  refine g_pure (p_assign rfl) rfl ?_
  refine g_nil ?_
  refine g_qt ?_
  refine g_ret ?_
  refine g_post (rs := [.tmp 4]) rfl (.tmp rfl .nil) ⟨?_, rfl⟩ .nil
  show Value.bool _ = Value.bool _
  congr 1
  rw [Bool.eq_iff_iff]
  simp [List.all_eq_true]
end Go.Proofs.Ytkebblmmgcgjkaa
/- Chapter 38: the operators, rooms, attempts, Apply, Mux. Conditions: none. -/
namespace Go.Proofs.Ytkebblmmgcgjkaa
set_option maxRecDepth 8000
set_option linter.unusedVariables false
set_option linter.unusedSimpArgs false
set_option linter.unusedSectionVars false
open Go Go.Z Go.Z.Aig Go.Z.Bit

variable {ρ : Nat → Obj → Prop} {S : St} {a b c : Int} {fa fb fc : List Bool → Bool}
variable {al bl : Option Addr} {cl cm : Nat} {ls ms : List Int} {f g : List Bool → List Bool}
theorem own_of_lit {e : TypeId} {b : Nat} {v : Value} {M : Mx} {n : Nat} {L : Fr} {H H' : List Assn} {T : Act → World → Prop} (tk : Take H (Blk b (.cells [v].toArray e (0, 0))) H') (h : G M n L (OwnSl e 1 (some ⟨b, 0, none⟩) 1 1 [v] :: H') T) : G M n L H T :=
  g_fold (k := 1) (cap := 1) (size := 1) (xs := [v]) tk (by omega) (by omega) rfl rfl h

theorem widthF_cases (op : Int) (n : Nat) : widthF op n = if op = 1 ∨ op = 3 ∨ op = 4 ∨ op = 5 then 1 else if op = 11 ∨ op = 12 then min (max n 1) 16 else 16 := rfl
/-- the operands of an operator fit together -/
def wOk (op : Int) (lss : List (List Int)) : Bool := lss.all fun l => l.length == widthF op (lss.headD []).length

theorem widths_ok {ρ : Nat → Obj → Prop} {al : Option Addr} {cl : Nat} {lss : List (List Int)} (op : Int) (h0 : 0 < lss.length) (hr : RSl2 ρ al (lss.map (·.map encI))) (h2 : lss.length ≤ 1000000000000) (h3 : ∀ l ∈ lss, l.length ≤ 1000000000000) :
    Con Try.prog ρ 60 #[.int .i64 op, .slice al lss.length cl] [] (fun v H => v = .int .i64 (if wOk op lss then 0 else 16) ∧ H = []) := by
  obtain ⟨b1, o1, cs1, T1, fz1, hrd⟩ := lrd2 hr
  obtain ⟨r1, r2, r3⟩ := hrd h0
  obtain ⟨ai, ci, e1, e2⟩ := r3 0 h0
  have hhd : lss.headD [] = lss[0] := by
    cases lss with
    | nil => simp at h0
    | cons x l => rfl
  have hl0 := h3 _ (List.getElem_mem h0)
  refine con_intro Try.func60 Try.call60 rfl Try.ntmps60 rfl (L := [(0, _), (1, _)]) rfl fun w hh => ?_
  refine g_seq ?_
  refine g_region ?_
  refine g_pure (p_assign rfl) rfl ?_
  refine g_nil ?_
  refine g_qt ?_
  refine g_seq ?_
  refine g_region ?_
  refine g_pure (p_move rfl) rfl ?_
  refine g_pure (p_indexAddr rfl rfl (by omega) (fun _ => r1)) rfl ?_
  refine g_pure (p_load (by rfl) rfl (Has.ro r2) e1) rfl ?_
  refine g_pure (p_len (by rfl) rfl) rfl ?_
  refine g_pure (p_assign rfl) rfl ?_
  refine g_nil ?_
  refine g_qt ?_
  refine g_seq ?_
  refine g_region ?_
  refine g_pure (p_assign rfl) rfl ?_
  refine g_nil ?_
  refine g_qt ?_
  refine g_seq ?_
  refine g_seq ?_
  refine g_region ?_
  refine g_pure (p_move rfl) rfl ?_
  refine g_nil ?_
  refine g_qt ?_
  refine g_join (fun y : Int => [(0, .int .i64 op), (1, .slice al lss.length cl), (6, .int .i64 y)]) (fun _ => []) (fun y => y = (widthF op lss[0].length : Nat)) ?_ ?_
  · refine g_block ?_
    refine g_seq ?_
    refine g_seq ?_
    refine g_region ?_
    refine g_pure (p_eql rfl rfl) rfl ?_
    refine g_pure (p_assign rfl) rfl ?_
    refine g_nil ?_
    refine g_qt ?_
    refine g_ifdL rfl (fun h1 => ?_) (fun h1 => ?_)
    · refine g_skip ?_
      refine g_qt ?_
      refine g_ift rfl ?_
      refine g_region ?_
      refine g_pure (p_assign rfl) rfl ?_
      refine g_nil ?_
      refine g_qb ?_
      refine g_qn ?_
      refine g_joined _ ⟨rfl, rfl, rfl, trivial⟩ .nil ?_
      rw [widthF_cases]
      (repeat' split) <;> omega
    · refine g_seq ?_
      refine g_region ?_
      refine g_pure (p_eql rfl rfl) rfl ?_
      refine g_pure (p_assign rfl) rfl ?_
      refine g_nil ?_
      refine g_qt ?_
      refine g_ifdL rfl (fun h3 => ?_) (fun h3 => ?_)
      · refine g_skip ?_
        refine g_qt ?_
        refine g_ift rfl ?_
        refine g_region ?_
        refine g_pure (p_assign rfl) rfl ?_
        refine g_nil ?_
        refine g_qb ?_
        refine g_qn ?_
        refine g_joined _ ⟨rfl, rfl, rfl, trivial⟩ .nil ?_
        rw [widthF_cases]
        (repeat' split) <;> omega
      · refine g_seq ?_
        refine g_region ?_
        refine g_pure (p_eql rfl rfl) rfl ?_
        refine g_pure (p_assign rfl) rfl ?_
        refine g_nil ?_
        refine g_qt ?_
        refine g_ifdL rfl (fun h5 => ?_) (fun h5 => ?_)
        · refine g_skip ?_
          refine g_qt ?_
          refine g_ift rfl ?_
          refine g_region ?_
          refine g_pure (p_assign rfl) rfl ?_
          refine g_nil ?_
          refine g_qb ?_
          refine g_qn ?_
          refine g_joined _ ⟨rfl, rfl, rfl, trivial⟩ .nil ?_
          rw [widthF_cases]
          (repeat' split) <;> omega
        · refine g_region ?_
          refine g_pure (p_eql rfl rfl) rfl ?_
          refine g_pure (p_assign rfl) rfl ?_
          refine g_nil ?_
          refine g_qt ?_
          refine g_ifdL rfl (fun h7 => ?_) (fun h7 => ?_)
          · refine g_region ?_
            refine g_pure (p_assign rfl) rfl ?_
            refine g_nil ?_
            refine g_qb ?_
            refine g_qn ?_
            refine g_joined _ ⟨rfl, rfl, rfl, trivial⟩ .nil ?_
            rw [widthF_cases]
            (repeat' split) <;> omega
          · refine g_seq ?_
            refine g_seq ?_
            refine g_region ?_
            refine g_pure (p_eql rfl rfl) rfl ?_
            refine g_pure (p_assign rfl) rfl ?_
            refine g_nil ?_
            refine g_qt ?_
            refine g_ifdL rfl (fun h8 => ?_) (fun h8 => ?_)
            · refine g_skip ?_
              refine g_qt ?_
              refine g_ift rfl ?_
              refine g_region ?_
              refine g_pure (p_move rfl) rfl ?_
              refine g_pure (p_max rfl rfl) rfl ?_
              refine g_pure (p_min rfl rfl) rfl ?_
              refine g_pure (p_assign rfl) rfl ?_
              refine g_nil ?_
              refine g_qb ?_
              refine g_qn ?_
              refine g_joined _ ⟨rfl, rfl, rfl, trivial⟩ .nil ?_
              rw [widthF_cases]
              (repeat' split) <;> omega
            · refine g_region ?_
              refine g_pure (p_eql rfl rfl) rfl ?_
              refine g_pure (p_assign rfl) rfl ?_
              refine g_nil ?_
              refine g_qt ?_
              refine g_ifdL rfl (fun h10 => ?_) (fun h10 => ?_)
              · refine g_region ?_
                refine g_pure (p_move rfl) rfl ?_
                refine g_pure (p_max rfl rfl) rfl ?_
                refine g_pure (p_min rfl rfl) rfl ?_
                refine g_pure (p_assign rfl) rfl ?_
                refine g_nil ?_
                refine g_qb ?_
                refine g_qn ?_
                refine g_joined _ ⟨rfl, rfl, rfl, trivial⟩ .nil ?_
                rw [widthF_cases]
                (repeat' split) <;> omega
              · refine g_skip ?_
                refine g_qb ?_
                refine g_qn ?_
                refine g_joined _ ⟨rfl, rfl, rfl, trivial⟩ .nil ?_
                rw [widthF_cases]
                (repeat' split) <;> omega
  rintro y rfl
  refine g_qt ?_
  refine g_seq ?_
  refine g_seq ?_
  refine g_region ?_
  refine g_pure (p_move rfl) rfl ?_
  refine g_pure (p_len (by rfl) rfl) rfl ?_
  refine g_pure (p_move rfl) rfl ?_
  refine g_nil ?_
  refine g_qt ?_
  refine g_block ?_
  have hwk : wOk op lss = lss.all fun l => l.length == widthF op lss[0].length := by unfold wOk; rw [hhd]
  generalize widthF op lss[0].length = wd at hwk ⊢
  refine g_loop (fun k : Nat => [(6, .int .i64 wd), (25, .slice al lss.length cl), (26, .int .i64 lss.length), (27, .int .i64 k)])
    (fun _ => []) (fun k => k ≤ lss.length ∧ ∀ j (hj : j < lss.length), j < k → lss[j].length = wd) (fun k => lss.length - k) 0 ⟨Nat.zero_le _, fun j _ h => absurd h (Nat.not_lt_zero j)⟩ (by (repeat (first | exact trivial | refine ⟨by rfl, ?_⟩)); done) .nil ?_
  rintro k ⟨hk, hall⟩
  refine g_seq ?_
  refine g_region ?_
  refine g_pure (p_lss rfl rfl) rfl ?_
  refine g_nil ?_
  refine g_qt ?_
  refine g_seq ?_
  refine g_ifd rfl (fun q => ?_) (fun q => ?_)
  · have hkl : k < lss.length := by omega
    obtain ⟨ai, ci, e1, e2⟩ := r3 k hkl
    refine g_skip ?_
    refine g_qt ?_
    refine g_seq ?_
    refine g_block ?_
    refine g_seq ?_
    refine g_region ?_
    refine g_pure (p_indexAddr rfl rfl (by omega) (fun _ => r1)) rfl ?_
    refine g_pure (p_load (by rfl) rfl (Has.ro r2) e1) rfl ?_
    refine g_pure (p_assign rfl) rfl ?_
    refine g_nil ?_
    refine g_qt ?_
    refine g_seq ?_
    refine g_region ?_
    refine g_pure (p_move rfl) rfl ?_
    refine g_pure (p_len (by rfl) rfl) rfl ?_
    refine g_pure (p_move rfl) rfl ?_
    refine g_pure (p_neq rfl rfl) rfl ?_
    refine g_nil ?_
    refine g_qt ?_
    refine g_ifnd rfl (fun q2 => ?_) (fun q2 => ?_)
    · refine g_seq ?_
      refine g_region ?_
      refine g_pure (p_assign rfl) rfl ?_
      refine g_nil ?_
      refine g_qt ?_
      refine g_ret ?_
      refine g_qb_ret ?_
      refine g_qt_ret ?_
      refine g_qn_ret ?_
      refine g_qb_ret ?_
      refine g_qt_ret ?_
      refine g_post (rs := [.tmp 4]) rfl (.tmp rfl .nil) ⟨?_, rfl⟩ .nil
      have : wOk op lss = false := by
        rw [hwk, List.all_eq_false]
        exact ⟨_, List.getElem_mem hkl, by simp; omega⟩
      rw [this]; rfl
    · refine g_skip ?_
      refine g_qb ?_
      refine g_qt ?_
      refine g_region ?_
      first | refine g_pure (p_addi rfl rfl (by omega)) rfl ?_ | refine g_pure (p_add rfl rfl) rfl ?_
      refine g_pure (p_move rfl) rfl ?_
      refine g_nil ?_
      refine g_qn ?_
      exact g_next (k + 1) (by (repeat (first | exact trivial | refine ⟨by rfl, ?_⟩)); done) .nil ⟨by omega, fun j hj h => (if e : j = k then by subst e; omega else hall j hj (by omega))⟩ (by omega)
  · refine g_exit ?_
    refine g_qt_exit ?_
    refine g_qn_exit ?_
    refine g_qb_exit ?_
    refine g_qt ?_
    refine g_seq ?_
    refine g_region ?_
    refine g_pure (p_assign rfl) rfl ?_
    refine g_nil ?_
    refine g_qt ?_
    refine g_ret ?_
    refine g_post (rs := [.tmp 4]) rfl (.tmp rfl .nil) ⟨?_, rfl⟩ .nil
    have : wOk op lss = true := by
      rw [hwk, List.all_eq_true]
      intro l hl
      obtain ⟨j, hj, rfl⟩ := List.getElem_of_mem hl
      simpa using hall j hj (by omega)
    rw [this]; rfl

theorem room_ok {ρ : Nat → Obj → Prop} {p : Nat} {S : St} (op : Int) (hl : S.length ≤ 100000) (hg : Ro ρ (Gr p S)) : Con Try.prog ρ 64 #[.pointer (some ⟨p, 0, none⟩), .int .i64 op] [] (fun v H => v = .bool true ∧ H = []) := by
  refine con_intro Try.func64 Try.call64 rfl Try.ntmps64 rfl (L := [(0, _), (1, _)]) rfl fun w hh => ?_
  refine g_seq ?_
  refine g_region ?_
  refine g_pure (p_assign rfl) rfl ?_
  refine g_nil ?_
  refine g_qt ?_
  refine g_seq ?_
  refine g_region ?_
  refine g_pure (p_assign rfl) rfl ?_
  refine g_nil ?_
  refine g_qt ?_
  refine g_seq ?_
  refine g_seq ?_
  refine g_region ?_
  refine g_pure (p_move rfl) rfl ?_
  refine g_nil ?_
  refine g_qt ?_
  refine g_join (fun y : Int => [(0, .pointer (some ⟨p, 0, none⟩)), (5, .int .i64 y)]) (fun _ => []) (fun y => 0 ≤ y ∧ y ≤ 6000) ?_ ?_
  · refine g_block ?_
    refine g_seq ?_
    refine g_region ?_
    refine g_pure (p_eql rfl rfl) rfl ?_
    refine g_pure (p_assign rfl) rfl ?_
    refine g_nil ?_
    refine g_qt ?_
    refine g_ifdL rfl (fun h1 => ?_) (fun h1 => ?_)
    · refine g_region ?_
      refine g_pure (p_assign rfl) rfl ?_
      refine g_nil ?_
      refine g_qb ?_
      refine g_qn ?_
      refine g_joined _ ⟨rfl, rfl, trivial⟩ .nil ?_
      omega
    · refine g_seq ?_
      refine g_seq ?_
      refine g_region ?_
      refine g_pure (p_eql rfl rfl) rfl ?_
      refine g_pure (p_assign rfl) rfl ?_
      refine g_nil ?_
      refine g_qt ?_
      refine g_ifdL rfl (fun h2 => ?_) (fun h2 => ?_)
      · refine g_skip ?_
        refine g_qt ?_
        refine g_ift rfl ?_
        refine g_region ?_
        refine g_pure (p_assign rfl) rfl ?_
        refine g_nil ?_
        refine g_qb ?_
        refine g_qn ?_
        refine g_joined _ ⟨rfl, rfl, trivial⟩ .nil ?_
        omega
      · refine g_region ?_
        refine g_pure (p_eql rfl rfl) rfl ?_
        refine g_pure (p_assign rfl) rfl ?_
        refine g_nil ?_
        refine g_qt ?_
        refine g_ifdL rfl (fun h4 => ?_) (fun h4 => ?_)
        · refine g_region ?_
          refine g_pure (p_assign rfl) rfl ?_
          refine g_nil ?_
          refine g_qb ?_
          refine g_qn ?_
          refine g_joined _ ⟨rfl, rfl, trivial⟩ .nil ?_
          omega
        · refine g_skip ?_
          refine g_qb ?_
          refine g_qn ?_
          refine g_joined _ ⟨rfl, rfl, trivial⟩ .nil ?_
          omega
  rintro y ⟨hy1, hy2⟩
  refine g_qt ?_
  refine g_seq ?_
  refine g_region ?_
  refine g_pure (p_move rfl) rfl ?_
  refine g_call (Hin := []) (Hr := ?hr1) (R := ?rr1) rfl rfl rfl ?hin1 ?hc1 ?hk1
  case hin1 => repeat' (first | exact Cover.nil | exact Take.here | apply Cover.cons | apply Take.there)
  case hc1 => intro ρ' hρ hR; exact glen_ok p S (hg.mono hρ)
  rintro _ _ ⟨rfl, rfl⟩
  refine g_pure (p_move rfl) rfl ?_
  first | refine g_pure (p_addi rfl rfl (by omega)) rfl ?_ | refine g_pure (p_add rfl rfl) rfl ?_
  refine g_pure (p_leq rfl rfl) rfl ?_
  refine g_pure (p_assign rfl) rfl ?_
  refine g_nil ?_
  refine g_qt ?_
  refine g_ret ?_
  refine g_post (rs := [.tmp 4]) rfl (.tmp rfl .nil) ⟨?_, rfl⟩ .nil
  show Value.bool _ = Value.bool _
  congr 1
  rw [decide_eq_true_iff]; omega

/-- what an operator needs of its operands' literals -/
structure OpOk (op : Int) (n : Nat) : Prop where
  hop : 1 ≤ op ∧ op ≤ 16
  n : n = widthF op n
theorem OpOk.pos {op : Int} {n : Nat} (h : OpOk op n) : 0 < n ∧ n ≤ 16 := by
  have := h.n
  rw [widthF_cases] at this
  split at this
  · omega
  · split at this <;> omega
theorem OpOk.one {op : Int} {n : Nat} (h : OpOk op n) (e : op = 1 ∨ op = 3 ∨ op = 4 ∨ op = 5) : n = 1 := by
  have := h.n; rw [widthF_cases, if_pos e] at this; exact this
theorem OpOk.word {op : Int} {n : Nat} (h : OpOk op n) (e : ¬ (op = 1 ∨ op = 3 ∨ op = 4 ∨ op = 5)) (e2 : ¬ (op = 11 ∨ op = 12)) : n = 16 := by
  have := h.n; rw [widthF_cases, if_neg e, if_neg e2] at this; exact this

set_option maxHeartbeats 1600000 in
theorem operate_ok (mb p : Nat) (hw : WF S) {op : Int} {n : Nat} (ho : OpOk op n) {lss : List (List Int)} (h0 : 0 < lss.length) (h9 : lss.length ≤ 1000) (hr : RSl2 ρ al (lss.map (·.map encI))) (hn1 : lss[0].length = n) (hn2 : (lss[lss.length - 1]'(by omega)).length = n)
    (d : DenL S lss[0] f) (d' : DenL S (lss[lss.length - 1]'(by omega)) g) (hl : S.length ≤ 100000) :
    Con Try.prog ρ 66 #[.pointer (some ⟨mb, 0, none⟩), .int .i64 op, .slice al lss.length cl] [MkB mb p, Gr p S]
    (fun v H => ∃ a2 c2 out T, v = .slice a2 out.length c2 ∧ H = [OwnSl 27 1 a2 out.length c2 (out.map encI), MkB mb p, Gr p T] ∧ Up S T 5000 ∧ DenL T out (fun i => operateF op (f i) (g i))) := by
  obtain ⟨b1, o1, cs1, T1, fz1, hrd⟩ := lrd2 hr
  obtain ⟨r1, r2, r3⟩ := hrd h0
  obtain ⟨ai, ci, e1, hls⟩ := r3 0 h0
  obtain ⟨bi, di, e2, hms⟩ := r3 (lss.length - 1) (by omega)
  rw [hn1] at e1 hls
  rw [hn2] at e2 hms
  obtain ⟨hn0, hn16⟩ := ho.pos
  generalize lss[0] = ls at hn1 d hls
  generalize lss[lss.length - 1]'(by omega) = ms at hn2 d' hms
  obtain ⟨ba, oa, ca, Ta, za, hra⟩ := lrd (ls := ls) (by rw [hn1]; exact hls)
  obtain ⟨ra1, ra2, ra3⟩ := hra (by omega)
  obtain ⟨bb, ob, cb, Tb, zb, hrb⟩ := lrd (ls := ms) (by rw [hn2]; exact hms)
  obtain ⟨rb1, rb2, rb3⟩ := hrb (by omega)
  have da := d.get (show 0 < ls.length by omega)
  have db := d'.get (show 0 < ms.length by omega)
  have hfl : ∀ i, (f i).length = n := fun i => by rw [d.len]; exact hn1
  have hki : ((lss.length : Int) - 1).toNat = lss.length - 1 := by omega
  have e2' : cs1[o1 + ((lss.length : Int) - 1).toNat * 1]? = some (.slice bi n di) := by rw [hki]; exact e2
  refine con_intro Try.func66 Try.call66 rfl Try.ntmps66 rfl (L := [(0, _), (1, _), (2, _)]) rfl fun w hh => ?_
  refine g_seq ?_
  refine g_region ?_
  refine g_pure (p_assign rfl) rfl ?_
  refine g_nil ?_
  refine g_qt ?_
  refine g_seq ?_
  refine g_region ?_
  refine g_pure (p_move rfl) rfl ?_
  refine g_pure (p_indexAddr rfl rfl (by omega) (fun _ => r1)) rfl ?_
  refine g_pure (p_load (by rfl) rfl (Has.ro r2) e1) rfl ?_
  refine g_pure (p_assign rfl) rfl ?_
  refine g_nil ?_
  refine g_qt ?_
  refine g_seq ?_
  refine g_region ?_
  refine g_pure (p_move rfl) rfl ?_
  refine g_pure (p_move rfl) rfl ?_
  refine g_pure (p_len (by rfl) rfl) rfl ?_
  first | refine g_pure (p_subi rfl rfl (by omega)) rfl ?_ | refine g_pure (p_sub rfl rfl) rfl ?_
  refine g_pure (p_indexAddr rfl rfl (by omega) (fun _ => r1)) rfl ?_
  refine g_pure (p_load (by rfl) rfl (Has.ro r2) e2') rfl ?_
  refine g_pure (p_assign rfl) rfl ?_
  refine g_nil ?_
  refine g_qt ?_
  refine g_seq ?_
  refine g_seq ?_
  refine g_region ?_
  refine g_pure (p_move rfl) rfl ?_
  refine g_nil ?_
  refine g_qt ?_
  refine g_block ?_
  refine g_seq ?_
  refine g_region ?_
  refine g_pure (p_eql rfl rfl) rfl ?_
  refine g_pure (p_assign rfl) rfl ?_
  refine g_nil ?_
  refine g_qt ?_
  refine g_ifd rfl (fun a1 => ?_) (fun a1 => ?_)
  · subst a1
    refine g_seq ?_
    refine g_region ?_
    refine g_pure (p_move rfl) rfl ?_
    refine g_call (Hin := []) (Hr := ?hr2) (R := ?rr2) rfl rfl rfl ?hin2 ?hc2 ?hk2
    case hin2 => repeat' (first | exact Cover.nil | exact Take.here | apply Cover.cons | apply Take.there)
    case hc2 => intro ρ' hρ hR; exact nots_n hn1 (i64_of hw d) (by omega) (hls.mono hρ)
    rintro _ _ ⟨a2, c2, rfl, rfl⟩
    refine g_pure (p_assign rfl) rfl ?_
    refine g_nil ?_
    refine g_qt ?_
    refine g_ret ?_
    refine g_qb_ret ?_
    refine g_qt_ret ?_
    have e : n = (ls.map nt).length := by rw [List.length_map]; omega
    exact g_post (Ho := [OwnSl 27 1 a2 n c2 ((ls.map nt).map encI), MkB mb p, Gr p S]) (rs := [.tmp 6]) rfl (.tmp rfl .nil) ⟨a2, c2, ls.map nt, S, by rw [← e]; rfl, by rw [← e], ⟨hw, .refl S, by omega⟩, d.not⟩ (by repeat' (first | exact Cover.nil | exact Take.here | apply Cover.cons | apply Take.there))
  · refine g_seq ?_
    refine g_region ?_
    refine g_pure (p_eql rfl rfl) rfl ?_
    refine g_pure (p_assign rfl) rfl ?_
    refine g_nil ?_
    refine g_qt ?_
    refine g_ifd rfl (fun a2 => ?_) (fun a2 => ?_)
    · subst a2
      refine g_seq ?_
      refine g_region ?_
      refine g_pure (p_move rfl) rfl ?_
      refine g_pure (p_move rfl) rfl ?_
      refine g_call (Hin := ?hi3) (Hr := ?hr3) (R := ?rr3) rfl rfl rfl ?hin3 ?hc3 ?hk3
      case hc3 => intro ρ' hρ hR; exact negate_n mb p hw hn1 (by omega) (by omega) (hls.mono hρ) (Den.one hw) d
      case hin3 => repeat' (first | exact Cover.nil | exact Take.here | apply Cover.cons | apply Take.there)
      rintro _ _ ⟨a2, c2, out, T, rfl, rfl, ho1, u, d1⟩
      refine g_pure (p_assign rfl) rfl ?_
      refine g_nil ?_
      refine g_qt ?_
      refine g_ret ?_
      refine g_qb_ret ?_
      refine g_qt_ret ?_
      exact g_post (Ho := [OwnSl 27 1 a2 n c2 (out.map encI), MkB mb p, Gr p T]) (rs := [.tmp 6]) rfl (.tmp rfl .nil) ⟨a2, c2, out, T, by rw [ho1]; rfl, by rw [ho1], ⟨u.wf, u.ext, by have := u.len; omega⟩, d1⟩ (by repeat' (first | exact Cover.nil | exact Take.here | apply Cover.cons | apply Take.there))
    · refine g_seq ?_
      refine g_region ?_
      refine g_pure (p_eql rfl rfl) rfl ?_
      refine g_pure (p_assign rfl) rfl ?_
      refine g_nil ?_
      refine g_qt ?_
      refine g_ifd rfl (fun a3 => ?_) (fun a3 => ?_)
      · subst a3
        refine g_seq ?_
        refine m_begin0 (.fl 0 0 (.fl 1 0 (.fl 2 0 (.fl 3 1 (.fl 4 0 (.fl 5 0 (.fl 6 1 (.ef 7 (.ef 8 (.fl 9 0 .done)))))))))) (by kernel_rfl) (by kernel_rfl) ?_
        refine m_float0 rfl (fun _ _ => p_move rfl) rfl ?_
        refine m_float0 rfl (fun _ _ => p_move rfl) rfl ?_
        refine m_float0 rfl (fun _ _ => p_indexAddr rfl rfl (by omega) (fun _ => ra1)) rfl ?_
        refine m_float rfl (p_load (by rfl) rfl (Has.ro ra2) (ra3 0 (by omega))) rfl ?_
        refine m_float0 rfl (fun _ _ => p_move rfl) rfl ?_
        refine m_float0 rfl (fun _ _ => p_indexAddr rfl rfl (by omega) (fun _ => rb1)) rfl ?_
        refine m_float rfl (p_load (by rfl) rfl (Has.ro rb2) (rb3 0 (by omega))) rfl ?_
        refine m_call (Hin := ?hi4) (Hr := ?hr4) (R := ?rr4) rfl wantedN rfl rfl rfl ?hin4 ?hc4 ?hk4
        case hc4 => intro ρ' hρ hR; exact mand_ok mb p hw (by omega) da db
        case hin4 => repeat' (first | exact Cover.nil | exact Take.here | apply Cover.cons | apply Take.there)
        rintro _ _ ⟨l, T, rfl, rfl, u, d1⟩
        refine ⟨.none (by kernel_rfl), ?_⟩
        refine m_eff rfl (e_bs (xs := [.tmp 45]) rfl rfl rfl (by rfl) (by rfl) rfl (by rfl)) rfl (fun _ _ => ?_)
        rintro ⟨b46, rfl, rfl⟩
        refine ⟨.none (by kernel_rfl), ?_⟩
        refine m_float0 rfl (fun _ _ => p_assign rfl) rfl ?_
        refine m_nil ?_
        refine g_qt ?_
        refine g_ret ?_
        refine g_qb_ret ?_
        refine g_qt_ret ?_
        refine own_of_lit (e := 27) (by repeat' (first | exact Take.here | apply Take.there)) ?_
        exact g_post (rs := [.tmp 6]) rfl (.tmp rfl .nil) ⟨_, _, [l], T, rfl, rfl, ⟨u.wf, u.ext, by have := u.len; omega⟩, .one d1⟩ (by repeat' (first | exact Cover.nil | exact Take.here | apply Cover.cons | apply Take.there))
      · refine g_seq ?_
        refine g_region ?_
        refine g_pure (p_eql rfl rfl) rfl ?_
        refine g_pure (p_assign rfl) rfl ?_
        refine g_nil ?_
        refine g_qt ?_
        refine g_ifd rfl (fun a4 => ?_) (fun a4 => ?_)
        · subst a4
          refine g_seq ?_
          refine m_begin0 (.fl 0 0 (.fl 1 0 (.fl 2 0 (.fl 3 1 (.fl 4 0 (.fl 5 0 (.fl 6 1 (.ef 7 (.ef 8 (.fl 9 0 .done)))))))))) (by kernel_rfl) (by kernel_rfl) ?_
          refine m_float0 rfl (fun _ _ => p_move rfl) rfl ?_
          refine m_float0 rfl (fun _ _ => p_move rfl) rfl ?_
          refine m_float0 rfl (fun _ _ => p_indexAddr rfl rfl (by omega) (fun _ => ra1)) rfl ?_
          refine m_float rfl (p_load (by rfl) rfl (Has.ro ra2) (ra3 0 (by omega))) rfl ?_
          refine m_float0 rfl (fun _ _ => p_move rfl) rfl ?_
          refine m_float0 rfl (fun _ _ => p_indexAddr rfl rfl (by omega) (fun _ => rb1)) rfl ?_
          refine m_float rfl (p_load (by rfl) rfl (Has.ro rb2) (rb3 0 (by omega))) rfl ?_
          refine m_call (Hin := ?hi5) (Hr := ?hr5) (R := ?rr5) rfl wantedN rfl rfl rfl ?hin5 ?hc5 ?hk5
          case hc5 => intro ρ' hρ hR; exact mor_ok mb p hw (by omega) da db
          case hin5 => repeat' (first | exact Cover.nil | exact Take.here | apply Cover.cons | apply Take.there)
          rintro _ _ ⟨l, T, rfl, rfl, u, d1⟩
          refine ⟨.none (by kernel_rfl), ?_⟩
          refine m_eff rfl (e_bs (xs := [.tmp 56]) rfl rfl rfl (by rfl) (by rfl) rfl (by rfl)) rfl (fun _ _ => ?_)
          rintro ⟨b57, rfl, rfl⟩
          refine ⟨.none (by kernel_rfl), ?_⟩
          refine m_float0 rfl (fun _ _ => p_assign rfl) rfl ?_
          refine m_nil ?_
          refine g_qt ?_
          refine g_ret ?_
          refine g_qb_ret ?_
          refine g_qt_ret ?_
          refine own_of_lit (e := 27) (by repeat' (first | exact Take.here | apply Take.there)) ?_
          exact g_post (rs := [.tmp 6]) rfl (.tmp rfl .nil) ⟨_, _, [l], T, rfl, rfl, ⟨u.wf, u.ext, by have := u.len; omega⟩, .one d1⟩ (by repeat' (first | exact Cover.nil | exact Take.here | apply Cover.cons | apply Take.there))
        · refine g_seq ?_
          refine g_region ?_
          refine g_pure (p_eql rfl rfl) rfl ?_
          refine g_pure (p_assign rfl) rfl ?_
          refine g_nil ?_
          refine g_qt ?_
          refine g_ifd rfl (fun a5 => ?_) (fun a5 => ?_)
          · subst a5
            refine g_seq ?_
            refine m_begin0 (.fl 0 0 (.fl 1 0 (.fl 2 0 (.fl 3 1 (.fl 4 0 (.fl 5 0 (.fl 6 1 (.ef 7 (.ef 8 (.fl 9 0 .done)))))))))) (by kernel_rfl) (by kernel_rfl) ?_
            refine m_float0 rfl (fun _ _ => p_move rfl) rfl ?_
            refine m_float0 rfl (fun _ _ => p_move rfl) rfl ?_
            refine m_float0 rfl (fun _ _ => p_indexAddr rfl rfl (by omega) (fun _ => ra1)) rfl ?_
            refine m_float rfl (p_load (by rfl) rfl (Has.ro ra2) (ra3 0 (by omega))) rfl ?_
            refine m_float0 rfl (fun _ _ => p_move rfl) rfl ?_
            refine m_float0 rfl (fun _ _ => p_indexAddr rfl rfl (by omega) (fun _ => rb1)) rfl ?_
            refine m_float rfl (p_load (by rfl) rfl (Has.ro rb2) (rb3 0 (by omega))) rfl ?_
            refine m_call (Hin := ?hi6) (Hr := ?hr6) (R := ?rr6) rfl wantedN rfl rfl rfl ?hin6 ?hc6 ?hk6
            case hc6 => intro ρ' hρ hR; exact mxor_ok mb p hw (by omega) da db
            case hin6 => repeat' (first | exact Cover.nil | exact Take.here | apply Cover.cons | apply Take.there)
            rintro _ _ ⟨l, T, rfl, rfl, u, d1⟩
            refine ⟨.none (by kernel_rfl), ?_⟩
            refine m_eff rfl (e_bs (xs := [.tmp 67]) rfl rfl rfl (by rfl) (by rfl) rfl (by rfl)) rfl (fun _ _ => ?_)
            rintro ⟨b68, rfl, rfl⟩
            refine ⟨.none (by kernel_rfl), ?_⟩
            refine m_float0 rfl (fun _ _ => p_assign rfl) rfl ?_
            refine m_nil ?_
            refine g_qt ?_
            refine g_ret ?_
            refine g_qb_ret ?_
            refine g_qt_ret ?_
            refine own_of_lit (e := 27) (by repeat' (first | exact Take.here | apply Take.there)) ?_
            exact g_post (rs := [.tmp 6]) rfl (.tmp rfl .nil) ⟨_, _, [l], T, rfl, rfl, ⟨u.wf, u.ext, by have := u.len; omega⟩, .one d1⟩ (by repeat' (first | exact Cover.nil | exact Take.here | apply Cover.cons | apply Take.there))
          · refine g_seq ?_
            refine g_region ?_
            refine g_pure (p_eql rfl rfl) rfl ?_
            refine g_pure (p_assign rfl) rfl ?_
            refine g_nil ?_
            refine g_qt ?_
            refine g_ifd rfl (fun a6 => ?_) (fun a6 => ?_)
            · subst a6
              refine g_seq ?_
              refine g_region ?_
              refine g_pure (p_move rfl) rfl ?_
              refine g_pure (p_move rfl) rfl ?_
              refine g_pure (p_move rfl) rfl ?_
              refine g_call (Hin := ?hi7) (Hr := ?hr7) (R := ?rr7) rfl rfl rfl ?hin7 ?hc7 ?hk7
              case hc7 => intro ρ' hρ hR; exact sum_n mb p hw hn1 hn2 (by omega) (hls.mono hρ) (hms.mono hρ) (Den.zero hw) d d'
              case hin7 => repeat' (first | exact Cover.nil | exact Take.here | apply Cover.cons | apply Take.there)
              rintro _ _ ⟨a2, c2, out, co, T, rfl, rfl, ho1, u, d1, _⟩
              refine g_pure (p_move rfl) rfl ?_
              refine g_pure (p_extract rfl rfl) rfl ?_
              refine g_pure (p_extract rfl rfl) rfl ?_
              refine g_pure (p_assign rfl) rfl ?_
              refine g_pure (p_assign rfl) rfl ?_
              refine g_nil ?_
              refine g_qt ?_
              refine g_seq ?_
              refine g_region ?_
              refine g_pure (p_move rfl) rfl ?_
              refine g_pure (p_assign rfl) rfl ?_
              refine g_nil ?_
              refine g_qt ?_
              refine g_ret ?_
              refine g_qb_ret ?_
              refine g_qt_ret ?_
              exact g_post (Ho := [OwnSl 27 1 a2 n c2 (out.map encI), MkB mb p, Gr p T]) (rs := [.tmp 6]) rfl (.tmp rfl .nil) ⟨a2, c2, out, T, by rw [ho1]; rfl, by rw [ho1], ⟨u.wf, u.ext, by have := u.len; omega⟩, d1⟩ (by repeat' (first | exact Cover.nil | exact Take.here | apply Cover.cons | apply Take.there))
            · refine g_seq ?_
              refine g_region ?_
              refine g_pure (p_eql rfl rfl) rfl ?_
              refine g_pure (p_assign rfl) rfl ?_
              refine g_nil ?_
              refine g_qt ?_
              refine g_ifd rfl (fun a7 => ?_) (fun a7 => ?_)
              · subst a7
                refine g_seq ?_
                refine g_region ?_
                refine g_pure (p_move rfl) rfl ?_
                refine g_pure (p_move rfl) rfl ?_
                refine g_pure (p_move rfl) rfl ?_
                refine g_call (Hin := []) (Hr := ?hr8) (R := ?rr8) rfl rfl rfl ?hin8 ?hc8 ?hk8
                case hin8 => repeat' (first | exact Cover.nil | exact Take.here | apply Cover.cons | apply Take.there)
                case hc8 => intro ρ' hρ hR; exact nots_n hn2 (i64_of hw d') (by omega) (hms.mono hρ)
                rintro _ _ ⟨na, nc, rfl, rfl⟩
                refine g_call (Hin := [MkB mb p, Gr p S]) (Hr := ?hr9) (R := ?rr9) rfl rfl rfl ?hin9 ?hc9 ?hk9
                case hin9 => repeat' (first | exact Cover.nil | exact Take.here | apply Cover.cons | apply Take.there)
                case hc9 => intro ρ' hρ hR; exact sum_n mb p hw hn1 (by rw [List.length_map]; exact hn2) (by omega) (hls.mono hρ) (RSl.of_own (Take.ro (A := OwnSl 27 1 na n nc ((ms.map nt).map encI)) (by repeat' (first | exact Take.here | apply Take.there)) hR)) (Den.one hw) d d'.not
                rintro _ _ ⟨a2, c2, out, co, T, rfl, rfl, ho1, u, d1, _⟩
                refine g_pure (p_move rfl) rfl ?_
                refine g_pure (p_extract rfl rfl) rfl ?_
                refine g_pure (p_extract rfl rfl) rfl ?_
                refine g_pure (p_assign rfl) rfl ?_
                refine g_pure (p_assign rfl) rfl ?_
                refine g_nil ?_
                refine g_qt ?_
                refine g_seq ?_
                refine g_region ?_
                refine g_pure (p_move rfl) rfl ?_
                refine g_pure (p_assign rfl) rfl ?_
                refine g_nil ?_
                refine g_qt ?_
                refine g_ret ?_
                refine g_qb_ret ?_
                refine g_qt_ret ?_
                exact g_post (Ho := [OwnSl 27 1 a2 n c2 (out.map encI), MkB mb p, Gr p T]) (rs := [.tmp 6]) rfl (.tmp rfl .nil) ⟨a2, c2, out, T, by rw [ho1]; rfl, by rw [ho1], ⟨u.wf, u.ext, by have := u.len; omega⟩, d1⟩ (by repeat' (first | exact Cover.nil | exact Take.here | apply Cover.cons | apply Take.there))
              · refine g_seq ?_
                refine g_region ?_
                refine g_pure (p_eql rfl rfl) rfl ?_
                refine g_pure (p_assign rfl) rfl ?_
                refine g_nil ?_
                refine g_qt ?_
                refine g_ifd rfl (fun a8 => ?_) (fun a8 => ?_)
                · subst a8
                  obtain rfl : n = 16 := ho.word (by decide) (by decide)
                  refine g_seq ?_
                  refine g_region ?_
                  refine g_pure (p_move rfl) rfl ?_
                  refine g_pure (p_move rfl) rfl ?_
                  refine g_pure (p_move rfl) rfl ?_
                  refine g_call (Hin := ?hi10) (Hr := ?hr10) (R := ?rr10) rfl rfl rfl ?hin10 ?hc10 ?hk10
                  case hc10 => intro ρ' hρ hR; exact product_n mb p hw hn1 hn2 (by omega) (by omega) (hls.mono hρ) (hms.mono hρ) d d'
                  case hin10 => repeat' (first | exact Cover.nil | exact Take.here | apply Cover.cons | apply Take.there)
                  rintro _ _ ⟨a2, c2, out, T, rfl, rfl, ho1, u, d1⟩
                  refine g_pure (p_assign rfl) rfl ?_
                  refine g_nil ?_
                  refine g_qt ?_
                  refine g_ret ?_
                  refine g_qb_ret ?_
                  refine g_qt_ret ?_
                  exact g_post (Ho := [OwnSl 27 1 a2 16 c2 (out.map encI), MkB mb p, Gr p T]) (rs := [.tmp 6]) rfl (.tmp rfl .nil) ⟨a2, c2, out, T, by rw [ho1]; rfl, by rw [ho1], ⟨u.wf, u.ext, by have := u.len; omega⟩, d1.congr fun i => by unfold operateF; simp only [hfl]; rfl⟩ (by repeat' (first | exact Cover.nil | exact Take.here | apply Cover.cons | apply Take.there))
                · refine g_seq ?_
                  refine g_region ?_
                  refine g_pure (p_eql rfl rfl) rfl ?_
                  refine g_pure (p_assign rfl) rfl ?_
                  refine g_nil ?_
                  refine g_qt ?_
                  refine g_ifd rfl (fun a9 => ?_) (fun a9 => ?_)
                  · subst a9
                    obtain rfl : n = 16 := ho.word (by decide) (by decide)
                    refine g_seq ?_
                    refine g_region ?_
                    refine g_pure (p_move rfl) rfl ?_
                    refine g_pure (p_move rfl) rfl ?_
                    refine g_pure (p_move rfl) rfl ?_
                    refine g_call (Hin := ?hi11) (Hr := ?hr11) (R := ?rr11) rfl rfl rfl ?hin11 ?hc11 ?hk11
                    case hc11 => intro ρ' hρ hR; exact division_ok mb p hw hn1 hn2 (by omega) (hls.mono hρ) (hms.mono hρ) d d'
                    case hin11 => repeat' (first | exact Cover.nil | exact Take.here | apply Cover.cons | apply Take.there)
                    rintro _ _ ⟨a2, c2, out, a3, c3, out2, T, rfl, rfl, ho1, ho2, u, d1, _⟩
                    refine g_pure (p_move rfl) rfl ?_
                    refine g_pure (p_extract rfl rfl) rfl ?_
                    refine g_pure (p_extract rfl rfl) rfl ?_
                    refine g_pure (p_assign rfl) rfl ?_
                    refine g_pure (p_assign rfl) rfl ?_
                    refine g_nil ?_
                    refine g_qt ?_
                    refine g_seq ?_
                    refine g_region ?_
                    refine g_pure (p_move rfl) rfl ?_
                    refine g_pure (p_assign rfl) rfl ?_
                    refine g_nil ?_
                    refine g_qt ?_
                    refine g_ret ?_
                    refine g_qb_ret ?_
                    refine g_qt_ret ?_
                    exact g_post (Ho := [OwnSl 27 1 a2 16 c2 (out.map encI), MkB mb p, Gr p T]) (rs := [.tmp 6]) rfl (.tmp rfl .nil) ⟨a2, c2, out, T, by rw [ho1]; rfl, by rw [ho1], u, d1⟩ (by repeat' (first | exact Cover.nil | exact Take.here | apply Cover.cons | apply Take.there))
                  · refine g_seq ?_
                    refine g_region ?_
                    refine g_pure (p_eql rfl rfl) rfl ?_
                    refine g_pure (p_assign rfl) rfl ?_
                    refine g_nil ?_
                    refine g_qt ?_
                    refine g_ifd rfl (fun a10 => ?_) (fun a10 => ?_)
                    · subst a10
                      obtain rfl : n = 16 := ho.word (by decide) (by decide)
                      refine g_seq ?_
                      refine g_region ?_
                      refine g_pure (p_move rfl) rfl ?_
                      refine g_pure (p_move rfl) rfl ?_
                      refine g_pure (p_move rfl) rfl ?_
                      refine g_call (Hin := ?hi12) (Hr := ?hr12) (R := ?rr12) rfl rfl rfl ?hin12 ?hc12 ?hk12
                      case hc12 => intro ρ' hρ hR; exact division_ok mb p hw hn1 hn2 (by omega) (hls.mono hρ) (hms.mono hρ) d d'
                      case hin12 => repeat' (first | exact Cover.nil | exact Take.here | apply Cover.cons | apply Take.there)
                      rintro _ _ ⟨a2, c2, out2, a3, c3, out, T, rfl, rfl, ho2, ho1, u, _, d1⟩
                      refine g_pure (p_move rfl) rfl ?_
                      refine g_pure (p_extract rfl rfl) rfl ?_
                      refine g_pure (p_extract rfl rfl) rfl ?_
                      refine g_pure (p_assign rfl) rfl ?_
                      refine g_pure (p_assign rfl) rfl ?_
                      refine g_nil ?_
                      refine g_qt ?_
                      refine g_seq ?_
                      refine g_region ?_
                      refine g_pure (p_move rfl) rfl ?_
                      refine g_pure (p_assign rfl) rfl ?_
                      refine g_nil ?_
                      refine g_qt ?_
                      refine g_ret ?_
                      refine g_qb_ret ?_
                      refine g_qt_ret ?_
                      exact g_post (Ho := [OwnSl 27 1 a3 16 c3 (out.map encI), MkB mb p, Gr p T]) (rs := [.tmp 6]) rfl (.tmp rfl .nil) ⟨a3, c3, out, T, by rw [ho1]; rfl, by rw [ho1], u, d1⟩ (by repeat' (first | exact Cover.nil | exact Take.here | apply Cover.cons | apply Take.there))
                    · have h11 : 11 ≤ op ∧ op ≤ 16 := by have := ho.hop; omega
                      refine g_skip ?_
                      refine g_qb ?_
                      refine g_qt ?_
                      refine g_seq ?_
                      refine g_region ?_
                      refine g_pure (p_move rfl) rfl ?_
                      refine g_pure (p_move rfl) rfl ?_
                      refine g_pure (p_move rfl) rfl ?_
                      refine g_pure (p_move rfl) rfl ?_
                      refine g_call (Hin := ?hi13) (Hr := ?hr13) (R := ?rr13) rfl rfl rfl ?hin13 ?hc13 ?hk13
                      case hc13 => intro ρ' hρ hR; exact compare_ok mb p hw h11 hn0 hn16 hn1 hn2 (by omega) (hls.mono hρ) (hms.mono hρ) d d'
                      case hin13 => repeat' (first | exact Cover.nil | exact Take.here | apply Cover.cons | apply Take.there)
                      rintro _ _ ⟨l, T, rfl, rfl, u, d1⟩
                      refine g_eff (e_bs (xs := [.tmp 120]) rfl rfl rfl (by rfl) (by rfl) rfl (by rfl)) rfl (fun _ _ => ?_)
                      rintro ⟨b121, rfl, rfl⟩
                      refine g_pure (p_assign rfl) rfl ?_
                      refine g_nil ?_
                      refine g_qt ?_
                      refine g_ret ?_
                      refine own_of_lit (e := 27) (by repeat' (first | exact Take.here | apply Take.there)) ?_
                      exact g_post (rs := [.tmp 6]) rfl (.tmp rfl .nil) ⟨_, _, [l], T, rfl, rfl, ⟨u.wf, u.ext, by have := u.len; omega⟩, (DenL.one d1).congr fun i => by unfold operateF; rw [if_neg (by omega), if_neg (by omega), if_neg (by omega), if_neg (by omega), if_neg (by omega), if_neg (by omega), if_neg (by omega), if_neg (by omega), if_neg (by omega), if_neg (by omega)]⟩ (by repeat' (first | exact Cover.nil | exact Take.here | apply Cover.cons | apply Take.there))
end Go.Proofs.Ytkebblmmgcgjkaa
