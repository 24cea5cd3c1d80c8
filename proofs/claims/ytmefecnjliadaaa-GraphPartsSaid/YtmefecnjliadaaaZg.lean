/- Own layer, part 7: bits of integers. Conditions: none. -/
import Derived.Test.YtmefecnjliadaaaZf
namespace Go.Z
set_option maxRecDepth 8000
set_option linter.unusedVariables false
set_option linter.unusedSimpArgs false
set_option linter.unusedSectionVars false
open Go

theorem nat_xor1 (a : Nat) : a ^^^ 1 = if a % 2 = 0 then a + 1 else a - 1 := by
  have h1 : (a ^^^ 1) / 2 = a / 2 := by rw [Nat.xor_div_two]; simp
  have h2 : (a ^^^ 1).testBit 0 = (a.testBit 0 ^^ true) := by rw [Nat.testBit_xor]; simp
  simp only [Nat.testBit_zero] at h2
  have h3 := Nat.mod_two_eq_zero_or_one (a ^^^ 1)
  have h4 := Nat.mod_two_eq_zero_or_one a
  have h5 := Nat.div_add_mod (a ^^^ 1) 2
  have h6 := Nat.div_add_mod a 2
  rcases h4 with h4 | h4 <;> rcases h3 with h3 | h3 <;> simp [h3, h4] at h2 ⊢ <;> omega

theorem nat_and1 (a : Nat) : a &&& 1 = a % 2 := Nat.and_one_is_mod a

theorem ofInt64 (a : Int) : (BitVec.ofInt IntKind.i64.bits a).toNat = (a % 18446744073709551616).toNat := by
  rw [BitVec.toNat_ofInt]; rfl

theorem xor1_i64 (a : Int) (h : -9223372036854775808 ≤ a ∧ a ≤ 9223372036854775807) : bitV .xor .i64 a 1 = if a % 2 = 0 then a + 1 else a - 1 := by
  unfold bitV
  simp only [BitVec.toNat_xor, ofInt64]
  have e : ((1 : Int) % 18446744073709551616).toNat = 1 := by decide
  rw [e, nat_xor1, IntKind.wrap_i64]
  have h0 : 0 ≤ a % 18446744073709551616 := by omega
  by_cases h2 : a % 2 = 0
  · have : (a % 18446744073709551616).toNat % 2 = 0 := by omega
    rw [if_pos this, if_pos h2]; omega
  · have : ¬ (a % 18446744073709551616).toNat % 2 = 0 := by omega
    rw [if_neg this, if_neg h2]; omega

theorem and1_i64 (a : Int) (h : -9223372036854775808 ≤ a ∧ a ≤ 9223372036854775807) : bitV .and .i64 a 1 = a % 2 := by
  unfold bitV
  simp only [BitVec.toNat_and, ofInt64]
  have e : ((1 : Int) % 18446744073709551616).toNat = 1 := by decide
  rw [e, nat_and1, IntKind.wrap_i64]
  have h0 : 0 ≤ a % 18446744073709551616 := by omega
  omega

section
variable {P : Program} {M : Mx} {n : Nat} {L : Fr} {H : List Assn} {x y : Operand} {t ty tz : TypeId} {ps : String} {af : Array Edge} {gd : Option (Nat × Bool)} {dd : Option Tmp} {k : IntKind} {i j : Int}
theorem p_eqlT (h1 : ev L x = some (.int k i)) (h2 : ev L y = some (.int k j)) (h : i = j) : Pur P M n L H ⟨dd, .binOp .eql t x y tz, ty, ps, af, gd⟩ (.bool true) := by
  have := p_eql (P := P) (M := M) (n := n) (H := H) (dd := dd) (t := t) (tz := tz) (ty := ty) (ps := ps) (af := af) (gd := gd) h1 h2; rwa [decide_eq_true h] at this
theorem p_eqlF (h1 : ev L x = some (.int k i)) (h2 : ev L y = some (.int k j)) (h : i ≠ j) : Pur P M n L H ⟨dd, .binOp .eql t x y tz, ty, ps, af, gd⟩ (.bool false) := by
  have := p_eql (P := P) (M := M) (n := n) (H := H) (dd := dd) (t := t) (tz := tz) (ty := ty) (ps := ps) (af := af) (gd := gd) h1 h2; rwa [decide_eq_false h] at this
theorem p_neqF (h1 : ev L x = some (.int k i)) (h2 : ev L y = some (.int k j)) (h : i = j) : Pur P M n L H ⟨dd, .binOp .neq t x y tz, ty, ps, af, gd⟩ (.bool false) := by
  have := p_neq (P := P) (M := M) (n := n) (H := H) (dd := dd) (t := t) (tz := tz) (ty := ty) (ps := ps) (af := af) (gd := gd) h1 h2; rwa [decide_eq_true h] at this
theorem p_neqT (h1 : ev L x = some (.int k i)) (h2 : ev L y = some (.int k j)) (h : i ≠ j) : Pur P M n L H ⟨dd, .binOp .neq t x y tz, ty, ps, af, gd⟩ (.bool true) := by
  have := p_neq (P := P) (M := M) (n := n) (H := H) (dd := dd) (t := t) (tz := tz) (ty := ty) (ps := ps) (af := af) (gd := gd) h1 h2; rwa [decide_eq_false h] at this
end
end Go.Z
