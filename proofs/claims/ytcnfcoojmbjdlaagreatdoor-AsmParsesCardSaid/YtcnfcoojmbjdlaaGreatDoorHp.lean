/- Decimal numerals, plain: what is written is read back. No program in sight. Conditions: none. -/
import Derived.Lib.AtoiAllCases
import Derived.Lib.ItoaNum
namespace Go.Z.Val
set_option maxRecDepth 8000
set_option linter.unusedVariables false
set_option linter.unusedSimpArgs false
set_option linter.unusedSectionVars false
open Go Go.Lib
theorem dig_nat {d : Nat} (h : d < 10) : (UInt8.ofNat (48 + d)).toNat = 48 + d := by
  rw [UInt8.toNat_ofNat']; omega
theorem dec_small {u : Nat} (h : u < 10) : decDigits u = [UInt8.ofNat (48 + u)] := by rw [decDigits, dif_pos h]
theorem dec_big {u : Nat} (h : ¬ u < 10) : decDigits u = decDigits (u / 10) ++ [UInt8.ofNat (48 + u % 10)] := by rw [decDigits, dif_neg h]
theorem dec_ind {p : Nat → Prop} (h1 : ∀ u, u < 10 → p u) (h2 : ∀ u, ¬ u < 10 → p (u / 10) → p u) (u : Nat) : p u := by
  induction u using Nat.strongRecOn with
  | ind u ih =>
    by_cases h : u < 10
    · exact h1 u h
    · exact h2 u h (ih (u / 10) (by omega))
theorem dec_digits (u : Nat) : decDigits u ≠ [] ∧ ∀ c ∈ decDigits u, 48 ≤ c.toNat ∧ c.toNat ≤ 57 := by
  refine dec_ind (p := fun u => decDigits u ≠ [] ∧ ∀ c ∈ decDigits u, 48 ≤ c.toNat ∧ c.toNat ≤ 57) (fun u h => ?_) (fun u h ih => ?_) u
  · rw [dec_small h]
    refine ⟨by simp, fun c hc => ?_⟩
    obtain rfl := List.mem_singleton.1 hc
    rw [dig_nat h]; omega
  · rw [dec_big h]
    refine ⟨by simp, fun c hc => ?_⟩
    rcases List.mem_append.1 hc with hc | hc
    · exact ih.2 c hc
    · obtain rfl := List.mem_singleton.1 hc
      rw [dig_nat (Nat.mod_lt _ (by decide))]; omega
theorem dec_len {k : Nat} : ∀ u : Nat, u < 10 ^ (k + 1) → (decDigits u).length ≤ k + 1 := by
  induction k with
  | zero => intro u h; rw [dec_small (by simpa using h)]; simp
  | succ k ih =>
    intro u h
    by_cases h1 : u < 10
    · rw [dec_small h1]; simp
    · rw [dec_big h1, List.length_append, List.length_singleton]
      have := ih (u / 10) (by rw [Nat.pow_succ] at h; omega)
      omega
theorem pu_append : ∀ (l r : List UInt8) (acc m : Nat), parseUint10 acc l = .ok m → parseUint10 acc (l ++ r) = parseUint10 m r
  | [], r, acc, m, h => by simp only [parseUint10] at h; injection h with h; subst h; rfl
  | c :: l, r, acc, m, h => by
    rw [List.cons_append]
    simp only [parseUint10] at h ⊢
    split at h
    · rename_i h1
      rw [if_pos h1]
      split at h
      · cases h
      · rename_i h2
        rw [if_neg h2]
        split at h
        · cases h
        · rename_i h3
          rw [if_neg h3]
          exact pu_append l r _ m h
    · cases h
theorem pu_one {m d : Nat} (hd : d < 10) (hm : m ≤ 1000000) : parseUint10 m [UInt8.ofNat (48 + d)] = .ok (m * 10 + d) := by
  simp only [parseUint10]
  rw [dig_nat hd, if_pos (by omega), if_neg (by omega), if_neg (by omega)]
  congr 1; omega
theorem pu_dec (u : Nat) : u ≤ 1000000 → parseUint10 0 (decDigits u) = .ok u := by
  refine dec_ind (p := fun u => u ≤ 1000000 → parseUint10 0 (decDigits u) = .ok u) (fun u h _ => ?_) (fun u h ih hb => ?_) u
  · rw [dec_small h, pu_one h (by decide)]; simp
  · rw [dec_big h, pu_append _ _ _ _ (ih (by omega)), pu_one (Nat.mod_lt _ (by decide)) (by omega)]
    congr 1; omega
theorem fold_dec (u : Nat) : (decDigits u).foldl (fun (a : Int) c => 10 * a + (c.toNat : Int) - 48) 0 = u := by
  refine dec_ind (p := fun u => (decDigits u).foldl (fun (a : Int) c => 10 * a + (c.toNat : Int) - 48) 0 = u) (fun u h => ?_) (fun u h ih => ?_) u
  · rw [dec_small h, List.foldl_cons, List.foldl_nil, dig_nat h]; omega
  · rw [dec_big h, List.foldl_append, ih, List.foldl_cons, List.foldl_nil, dig_nat (Nat.mod_lt _ (by decide))]; omega
theorem mag_dec {u : Nat} (h : u ≤ 1000000) : parseMag (decDigits u) = .ok u := by
  unfold parseMag; rw [if_neg (dec_digits u).1, pu_dec u h]
theorem itoa_neg {n : Int} (h : n < 0) : itoa n = 45 :: decDigits n.natAbs := by unfold itoa; rw [if_pos h]
theorem itoa_pos {n : Int} (h : ¬ n < 0) : itoa n = decDigits n.toNat := by unfold itoa; rw [if_neg h]
theorem atoi_itoa {n : Int} (h : -32768 ≤ n ∧ n ≤ 32767) : atoiAll (itoa n) = .ok n := by
  by_cases hn : n < 0
  · rw [itoa_neg hn, atoiAll_minus, mag_dec (by omega)]
    unfold signed; dsimp only
    rw [if_neg (by omega)]
    congr 1; omega
  · rw [itoa_pos hn]
    obtain ⟨h1, h2⟩ := dec_digits n.toNat
    have hm := mag_dec (u := n.toNat) (by omega)
    cases hd : decDigits n.toNat with
    | nil => exact absurd hd h1
    | cons c r =>
      rw [hd] at hm h2
      have hc := h2 c (by simp)
      rw [atoiAll_plain c r (by omega) (by omega), hm]
      unfold signless; dsimp only
      rw [if_neg (by omega)]
      congr 1; omega
theorem itoa_form {n : Int} (h : -32768 ≤ n ∧ n ≤ 32767) : (itoa n).length ≤ 6 ∧ ∃ ds : List UInt8, ds ≠ [] ∧ (∀ c ∈ ds, 48 ≤ c.toNat ∧ c.toNat ≤ 57) ∧ ((n < 0 ∧ itoa n = 45 :: ds ∧ ds.foldl (fun (a : Int) c => 10 * a + (c.toNat : Int) - 48) 0 = -n) ∨ (0 ≤ n ∧ itoa n = ds ∧ ds.foldl (fun (a : Int) c => 10 * a + (c.toNat : Int) - 48) 0 = n)) := by
  by_cases hn : n < 0
  · rw [itoa_neg hn]
    refine ⟨?_, decDigits n.natAbs, (dec_digits _).1, (dec_digits _).2, .inl ⟨hn, rfl, ?_⟩⟩
    · have := dec_len (k := 4) n.natAbs (by omega)
      rw [List.length_cons]; omega
    · rw [fold_dec]; omega
  · rw [itoa_pos hn]
    refine ⟨?_, decDigits n.toNat, (dec_digits _).1, (dec_digits _).2, .inr ⟨by omega, rfl, ?_⟩⟩
    · have := dec_len (k := 4) n.toNat (by omega)
      omega
    · rw [fold_dec]; omega
end Go.Z.Val
