/- The text of a formula and its reading, plain: what is written is read back. No program in sight. Conditions: none. -/
import Derived.Test.YtcnfcoojmbjdlaaGreatDoorYp
import Derived.Test.YtcnfcoojmbjdlaaGreatDoorHp
namespace Go.Z.Txt
set_option maxRecDepth 8000
set_option linter.unusedVariables false
set_option linter.unusedSimpArgs false
set_option linter.unusedSectionVars false
open Go Go.Lib Go.Z.Val

theorem pu1 {m d : Nat} (hd : d < 10) (hm : m ≤ 1000000000000) : parseUint10 m [UInt8.ofNat (48 + d)] = .ok (m * 10 + d) := by
  simp only [parseUint10]
  rw [dig_nat hd, if_pos (by omega), if_neg (by omega), if_neg (by omega)]
  congr 1; omega
theorem pud (u : Nat) : u ≤ 1000000000000 → parseUint10 0 (decDigits u) = .ok u := by
  refine dec_ind (p := fun u => u ≤ 1000000000000 → parseUint10 0 (decDigits u) = .ok u) (fun u h _ => ?_) (fun u h ih hb => ?_) u
  · rw [dec_small h, pu1 h (by decide)]; simp
  · rw [dec_big h, pu_append _ _ _ _ (ih (by omega)), pu1 (Nat.mod_lt _ (by decide)) (by omega)]
    congr 1; omega
theorem magd {u : Nat} (h : u ≤ 1000000000000) : parseMag (decDigits u) = .ok u := by
  unfold parseMag; rw [if_neg (dec_digits u).1, pud u h]
theorem atoi_it {n : Int} (h : -1000000000000 ≤ n ∧ n ≤ 1000000000000) : atoiAll (itoa n) = .ok n := by
  by_cases hn : n < 0
  · rw [itoa_neg hn, atoiAll_minus, magd (by omega)]
    unfold signed; dsimp only
    rw [if_neg (by omega)]
    congr 1; omega
  · rw [itoa_pos hn]
    obtain ⟨h1, h2⟩ := dec_digits n.toNat
    have hm := magd (u := n.toNat) (by omega)
    cases hd : decDigits n.toNat with
    | nil => exact absurd hd h1
    | cons c r =>
      rw [hd] at hm h2
      have hc := h2 c (by simp)
      rw [atoiAll_plain c r (by omega) (by omega), hm]
      unfold signless; dsimp only
      rw [if_neg (by omega)]
      congr 1; omega
theorem itoa_len {n : Int} (h : -2147483648 ≤ n ∧ n ≤ 2147483648) : (itoa n).length ≤ 11 := by
  by_cases hn : n < 0
  · rw [itoa_neg hn]
    have := dec_len (k := 9) n.natAbs (by omega)
    rw [List.length_cons]; omega
  · rw [itoa_pos hn]
    have := dec_len (k := 9) n.toNat (by omega)
    omega
theorem itoa_chars {n : Int} : ∀ b ∈ itoa n, b.toNat = 45 ∨ (48 ≤ b.toNat ∧ b.toNat ≤ 57) := by
  intro b hb
  by_cases hn : n < 0
  · rw [itoa_neg hn] at hb
    rcases List.mem_cons.1 hb with rfl | hb
    · exact .inl rfl
    · exact .inr ((dec_digits _).2 b hb)
  · rw [itoa_pos hn] at hb
    exact .inr ((dec_digits _).2 b hb)
theorem itoa_free {n : Int} {c : UInt8} (hc : c.toNat < 45) : c ∉ itoa n := fun h => by
  have := itoa_chars c h; omega
theorem itoa_zero : itoa 0 = [48] := by rw [itoa_pos (by decide)]; exact dec_small (by decide)

/-- the number with a text -/
def numV (l : List UInt8) : Option Int :=
  if 11 < l.length then none else
  match atoiAll l with
  | .ok n => if itoa n = l ∧ -2147483648 ≤ n ∧ n ≤ 2147483648 then some n else none
  | _ => none
theorem numV_itoa {n : Int} (h : -2147483648 ≤ n ∧ n ≤ 2147483648) : numV (itoa n) = some n := by
  unfold numV
  rw [if_neg (by have := itoa_len h; omega), atoi_it (by omega)]
  exact if_pos ⟨rfl, h.1, h.2⟩
theorem numV_some {l : List UInt8} {n : Int} (h : numV l = some n) : itoa n = l ∧ -2147483648 ≤ n ∧ n ≤ 2147483648 := by
  unfold numV at h
  split at h
  · cases h
  · split at h
    · split at h
      · rename_i hh; injection h with h; subst h; exact hh
      · cases h
    · cases h
theorem numV_none {l : List UInt8} (h : numV l = none) (n : Int) (hn : -2147483648 ≤ n ∧ n ≤ 2147483648) : itoa n ≠ l := fun e => by
  subst e; rw [numV_itoa hn] at h; cases h

/-- the line of a clause, without its end -/
def lineT (c : List Int) : List UInt8 := (c.map fun x => itoa x ++ [32]).flatten ++ [48]
def headT (n : Int) (k : Nat) : List UInt8 := [112, 32, 99, 110, 102, 32] ++ itoa n ++ [32] ++ itoa k
/-- the text of a formula -/
def textV (n : Int) (F : List (List Int)) : List UInt8 := headT n F.length ++ [10] ++ (F.map fun c => lineT c ++ [10]).flatten

/-- the numbers of a clause's words: 0 stands last, and there alone -/
def wordsV : List (List UInt8) → Option (List Int)
  | [] => none
  | [w] => match numV w with
    | some n => if n = 0 then some [] else none
    | none => none
  | w :: r => match numV w with
    | some n => if n = 0 then none else (wordsV r).map (n :: ·)
    | none => none
def farV (vars : Int) (c : List Int) : Bool := c.any fun x => decide (vars < x) || decide (x < -vars)
def bodyV (vars : Int) : Nat → List UInt8 → Int → Except (Int × Int) (List (List Int))
  | 0, rest, line => if rest = [] then .ok [] else .error (line + 1, 5)
  | k + 1, rest, line =>
    match cut rest [10] with
    | (s, r, true) =>
      match wordsV (pieces 32 s) with
      | none => .error (line + 1, 5)
      | some c => if farV vars c then .error (line + 1, 14) else (bodyV vars k r (line + 1)).map (c :: ·)
    | (_, _, false) => .error (line + 1, 4)
def headV (s : List UInt8) : Except Int (Int × Int) :=
  match pieces 32 s with
  | [p, q, a, b] =>
    if p = [112] ∧ q = [99, 110, 102] then
      match numV a, numV b with
      | some x, some y => if x < 0 ∨ y < 0 then .error 5 else if 262144 < x then .error 3 else .ok (x, y)
      | _, _ => .error 5
    else .error 5
  | _ => .error 5
def parseV (t : List UInt8) : Except (Int × Int) (Int × List (List Int)) :=
  match cut t [10] with
  | (s, r, true) =>
    match headV s with
    | .error e => .error (1, e)
    | .ok (x, y) => (bodyV x y.toNat r 1).map (x, ·)
  | (_, _, false) => .error (1, 4)

theorem line_glue : ∀ c : List Int, lineT c = glue 32 (c.map itoa ++ [[48]])
  | [] => rfl
  | x :: c => by
    have ih := line_glue c
    cases hc : c.map itoa ++ [[48]] with
    | nil => simp at hc
    | cons y r =>
      rw [List.map_cons, List.cons_append, hc, glue_cons, ← hc, ← ih]
      simp [lineT]
theorem line_pieces (c : List Int) : pieces 32 (lineT c) = c.map itoa ++ [[48]] := by
  rw [line_glue]
  refine pieces_glue (by simp) fun x hx => ?_
  rcases List.mem_append.1 hx with hx | hx
  · obtain ⟨n, -, rfl⟩ := List.mem_map.1 hx
    exact itoa_free (by decide)
  · rw [List.mem_singleton.1 hx]; decide
theorem line_free (c : List Int) : (10 : UInt8) ∉ lineT c := by
  unfold lineT
  rw [List.mem_append, not_or]
  refine ⟨fun h => ?_, by decide⟩
  obtain ⟨l, hl, hm⟩ := List.mem_flatten.1 h
  obtain ⟨n, -, rfl⟩ := List.mem_map.1 hl
  rcases List.mem_append.1 hm with hm | hm
  · exact itoa_free (by decide) hm
  · revert hm; decide
theorem words_line : ∀ c : List Int, (∀ x ∈ c, x ≠ 0 ∧ -2147483648 ≤ x ∧ x ≤ 2147483648) → wordsV (c.map itoa ++ [[48]]) = some c
  | [], _ => by
    have : numV [48] = some 0 := by rw [← itoa_zero]; exact numV_itoa (by decide)
    simp [wordsV, this]
  | x :: c, h => by
    have ih := words_line c fun y hy => h y (by simp [hy])
    have hx := h x (by simp)
    cases hc : c.map itoa ++ [[48]] with
    | nil => simp at hc
    | cons y r =>
      rw [List.map_cons, List.cons_append, hc, wordsV, numV_itoa hx.2]
      · dsimp only
        rw [if_neg hx.1, ← hc, ih]; rfl
      · simp
theorem body_text {vars : Int} (hv : vars ≤ 262144) : ∀ (F : List (List Int)) (line : Int), (∀ c ∈ F, ∀ x ∈ c, x ≠ 0 ∧ -vars ≤ x ∧ x ≤ vars) →
    bodyV vars F.length (F.map fun c => lineT c ++ [10]).flatten line = .ok F
  | [], line, _ => by simp [bodyV]
  | c :: F, line, h => by
    have hc := h c (by simp)
    rw [List.map_cons, List.flatten_cons, List.append_assoc, List.singleton_append, List.length_cons, bodyV, cut_hit _ (line_free c)]
    dsimp only
    rw [line_pieces, words_line c fun x hx => by have := hc x hx; omega]
    dsimp only
    rw [if_neg ?_, body_text hv F (line + 1) fun d hd => h d (by simp [hd])]
    · rfl
    · intro hf
      unfold farV at hf
      obtain ⟨x, hx, hh⟩ := List.any_eq_true.1 hf
      have := hc x hx
      simp at hh; omega
theorem head_free (n : Int) (k : Nat) : (10 : UInt8) ∉ headT n k := by
  unfold headT
  simp only [List.mem_append, not_or]
  exact ⟨⟨⟨by decide, itoa_free (by decide)⟩, by decide⟩, itoa_free (by decide)⟩
theorem head_pieces (n : Int) (k : Nat) : pieces 32 (headT n k) = [[112], [99, 110, 102], itoa n, itoa k] := by
  have e : headT n k = glue 32 [[112], [99, 110, 102], itoa n, itoa k] := by simp [headT, glue]
  rw [e]
  refine pieces_glue (by simp) fun x hx => ?_
  simp only [List.mem_cons, List.not_mem_nil, or_false] at hx
  rcases hx with rfl | rfl | rfl | rfl
  · decide
  · decide
  · exact itoa_free (by decide)
  · exact itoa_free (by decide)
theorem parse_text {n : Int} {F : List (List Int)} (h0 : 0 ≤ n) (h1 : n ≤ 262144) (hk : F.length ≤ 2147483648) (h : ∀ c ∈ F, ∀ x ∈ c, x ≠ 0 ∧ -n ≤ x ∧ x ≤ n) : parseV (textV n F) = .ok (n, F) := by
  unfold parseV textV
  rw [List.append_assoc, List.singleton_append, cut_hit _ (head_free n F.length)]
  dsimp only
  unfold headV
  rw [head_pieces]
  dsimp only
  rw [if_pos ⟨rfl, rfl⟩, numV_itoa (by omega), numV_itoa (by omega)]
  dsimp only
  rw [if_neg (by omega), if_neg (by omega)]
  dsimp only
  rw [Int.toNat_natCast, body_text h1 F 1 h]; rfl
end Go.Z.Txt
