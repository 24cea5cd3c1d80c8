/- Chapter 35: what the arguments of its laws read as. Conditions: none. -/
import Derived.Test.YtmdmffpfnijahaaB3
namespace Go.Proofs.Ytmdmffpfnijahaa
set_option linter.unusedVariables false
set_option linter.unusedSimpArgs false
set_option linter.unusedSectionVars false
open Go Go.Z Go.Z.Aig

variable {H : Type} {enc : TypeId × Value → H} {W : World} {cs : List Value}

theorem four {c : List Value} (h : c.length = 4) : ∃ a b d e, c = [a, b, d, e] := by
  match c, h with
  | [a, b, d, e], _ => exact ⟨a, b, d, e, rfl⟩

theorem rd_call {c : List Value} (h : Rdx enc Try.prog W 65 c) : ∃ x : Call, c = encC x ∧ x.ok := by
  obtain ⟨h1, h2⟩ := rd_struct Try.underlying65 h
  obtain ⟨v0, v1, v2, v3, rfl⟩ := four (h1.trans (by kernel_rfl))
  have c1 : Try.prog.cellsOf 3 = 1 := by kernel_rfl
  have c2 : Try.prog.cellsOf 5 = 1 := by kernel_rfl
  have f0 : Rdx enc Try.prog W 5 (List.take (Try.prog.cellsOf 5) ([v0, v1, v2, v3].drop 0)) := h2 0 _ rfl
  rw [c2] at f0
  have f0 : Rdx enc Try.prog W 5 [v0] := f0
  have f1 : Rdx enc Try.prog W 3 (List.take (Try.prog.cellsOf 3) ([v0, v1, v2, v3].drop 1)) := h2 1 _ rfl
  rw [c1] at f1
  have f1 : Rdx enc Try.prog W 3 [v1] := f1
  have f2 : Rdx enc Try.prog W 3 (List.take (Try.prog.cellsOf 3) ([v0, v1, v2, v3].drop 2)) := h2 2 _ rfl
  rw [c1] at f2
  have f2 : Rdx enc Try.prog W 3 [v2] := f2
  have f3 : Rdx enc Try.prog W 3 (List.take (Try.prog.cellsOf 3) ([v0, v1, v2, v3].drop 3)) := h2 3 _ rfl
  rw [c1] at f3
  have f3 : Rdx enc Try.prog W 3 [v3] := f3
  obtain ⟨n0, e0, w0⟩ := rd_int Try.underlying5 f0
  obtain ⟨n1, e1, w1⟩ := rd_int Try.underlying3 f1
  obtain ⟨n2, e2, w2⟩ := rd_int Try.underlying3 f2
  obtain ⟨n3, e3, w3⟩ := rd_int Try.underlying3 f3
  cases e0; cases e1; cases e2; cases e3
  exact ⟨⟨n0, n1, n2, n3⟩, rfl, wf_u8 w0, wf_i64 w1, wf_i64 w2, wf_i64 w3⟩

theorem rd_calls (h : Rdx enc Try.prog W 26 cs) : ∃ (a : Option Addr) (cap : Nat) (l : List Call), cs = [.slice a l.length cap] ∧ l.length ≤ cap ∧ cap ≤ maxLen ∧ (∀ x ∈ l, x.ok) ∧ RSl (Old W) 4 a l.length (l.flatMap encC) :=
  rd_list Call.ok encC Try.underlying26 (by kernel_rfl) (by decide) (fun _ _ h => rd_call h) h
end Go.Proofs.Ytmdmffpfnijahaa
