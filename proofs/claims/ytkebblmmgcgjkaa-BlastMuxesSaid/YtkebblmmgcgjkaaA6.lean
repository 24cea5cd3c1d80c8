/- Chapter 35: the small case, negations. Conditions: none. -/
import Derived.Test.YtkebblmmgcgjkaaA5
import Derived.Test.YtkebblmmgcgjkaaZh
namespace Go.Proofs.Ytkebblmmgcgjkaa
set_option maxRecDepth 8000
set_option linter.unusedVariables false
set_option linter.unusedSimpArgs false
set_option linter.unusedSectionVars false
open Go Go.Z Go.Z.Aig

def L0 : St := [(0, 0, false)]
def L2 : St := [(0, 0, false), (0, 0, true), (0, 0, true)]
def L5 : St := [(0, 0, false), (0, 0, true), (0, 0, true), (2, 5, false), (3, 4, false), (7, 9, false)]
def L6 : St := [(0, 0, false), (0, 0, true), (0, 0, true), (2, 5, false), (3, 4, false), (7, 9, false), (2, 4, false)]

theorem lives_in1 : input1 L0 = (2, 0, [(0, 0, false), (0, 0, true)]) := by decide
theorem lives_in2 : input1 [(0, 0, false), (0, 0, true)] = (4, 0, L2) := by decide
theorem lives_xor : xor1 L2 2 4 = (11, 0, L5) := by decide
theorem lives_and : and1 L5 4 2 = (12, 0, L6) := by decide
theorem lives_and2 : and1 L6 2 4 = (12, 0, L6) := by decide
theorem lives_eval : eval1 L6 [true, false] [11, 12, 1, 3] = ([true, false, true, false], 0) := by decide

theorem input_at {ρ : Nat → Obj → Prop} {p : Nat} {S : St} {a e : Int} {T : St} (h : input1 S = (a, e, T)) :
    Con Try.prog ρ 12 #[.pointer (some ⟨p, 0, none⟩)] [Gr p S] (fun v H => v = .tuple #[.int .i64 a, .int .i64 e] ∧ H = [Gr p T]) := by
  have := input_ok (ρ := ρ) p S; rw [h] at this; exact this
theorem and_at {ρ : Nat → Obj → Prop} {p : Nat} {S : St} {x y a e : Int} {T : St} (h : and1 S x y = (a, e, T)) (hx : I64 x) (hy : I64 y) :
    Con Try.prog ρ 14 #[.pointer (some ⟨p, 0, none⟩), .int .i64 x, .int .i64 y] [Gr p S] (fun v H => v = .tuple #[.int .i64 a, .int .i64 e] ∧ H = [Gr p T]) := by
  have := and_ok (ρ := ρ) p S x y hx hy; rw [h] at this; exact this
theorem xor_at {ρ : Nat → Obj → Prop} {p : Nat} {S : St} {x y a e : Int} {T : St} (h : xor1 S x y = (a, e, T)) (hx : I64 x) (hy : I64 y) :
    Con Try.prog ρ 117 #[.pointer (some ⟨p, 0, none⟩), .int .i64 x, .int .i64 y] [Gr p S] (fun v H => v = .tuple #[.int .i64 a, .int .i64 e] ∧ H = [Gr p T]) := by
  have := xor_ok (ρ := ρ) p S x y hx hy; rw [h] at this; exact this
theorem mux_at {ρ : Nat → Obj → Prop} {p : Nat} {S : St} {c x y a e : Int} {T : St} (h : mux1 S c x y = (a, e, T)) (hc : I64 c) (hx : I64 x) (hy : I64 y) :
    Con Try.prog ρ 129 #[.pointer (some ⟨p, 0, none⟩), .int .i64 c, .int .i64 x, .int .i64 y] [Gr p S] (fun v H => v = .tuple #[.int .i64 a, .int .i64 e] ∧ H = [Gr p T]) := by
  have := mux_ok (ρ := ρ) p S c x y hc hx hy; rw [h] at this; exact this
theorem eval_at {ρ : Nat → Obj → Prop} {p : Nat} {S : St} {ia : Option Addr} {ic : Nat} {inp : List Bool} {al : Option Addr} {cl : Nat} {ls : List Int} {vs : List Bool} {e : Int} (h : eval1 S inp ls = (vs, e)) (hin : RSl ρ 1 ia inp.length (inp.map encB)) (hl : RSl ρ 1 al ls.length (ls.map encI)) (hlen : ls.length ≤ 10000000000) (hilen : inp.length ≤ 9223372036854775807)
    (hr : ∀ l ∈ ls, -9223372036854775808 ≤ l ∧ l ≤ 9223372036854775807) (hg : Ro ρ (Gr p S)) :
    Con Try.prog ρ 17 #[.pointer (some ⟨p, 0, none⟩), .slice ia inp.length ic, .slice al ls.length cl] []
      (fun v H => ∃ a c, v = .tuple #[.slice a vs.length c, .int .i64 e] ∧ H = [OwnSl 4 1 a vs.length c (vs.map encB)]) := by
  have := eval_ok (ρ := ρ) p S ia ic inp hin al cl ls hl hlen hilen hr hg; rw [h] at this; exact this

theorem i64_lit {a : Int} (h : (decide (-9223372036854775808 ≤ a) && decide (a ≤ 9223372036854775807)) = true) : I64 a := by simpa [I64] using h

end Go.Proofs.Ytkebblmmgcgjkaa
