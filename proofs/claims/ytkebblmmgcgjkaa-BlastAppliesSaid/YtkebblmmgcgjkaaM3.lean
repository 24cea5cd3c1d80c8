/- BlastApplies: reading lists of bits. Conditions: none. -/
import Derived.Test.YtkebblmmgcgjkaaK8
namespace Go.Proofs.Ytkebblmmgcgjkaa
set_option maxRecDepth 8000
set_option linter.unusedVariables false
set_option linter.unusedSimpArgs false
set_option linter.unusedSectionVars false
open Go Go.Z

variable {H : Type} {enc : TypeId × Value → H} {W : World} {cs : List Value}
theorem bl_of : ∀ {c : List Value}, (∀ v ∈ c, ∃ b, v = Value.bool b) → ∃ bl : List Bool, c = bl.map encB
  | [], _ => ⟨[], rfl⟩
  | v :: c, h => by
    obtain ⟨b, rfl⟩ := h v (by simp)
    obtain ⟨bl, rfl⟩ := bl_of (c := c) fun u hu => h u (by simp [hu])
    exact ⟨b :: bl, rfl⟩
theorem bls_of : ∀ {rows : List (List Value)}, (∀ r ∈ rows, (∃ bl : List Bool, r = bl.map encB) ∧ r.length ≤ maxLen) → ∃ l : List (List Bool), rows = l.map (·.map encB) ∧ ∀ x ∈ l, x.length ≤ maxLen
  | [], _ => ⟨[], rfl, fun x h => absurd h List.not_mem_nil⟩
  | r :: rows, h => by
    obtain ⟨⟨bl, rfl⟩, hl⟩ := h r (by simp)
    obtain ⟨l, rfl, h2⟩ := bls_of (rows := rows) fun u hu => h u (by simp [hu])
    refine ⟨bl :: l, rfl, fun x hx => ?_⟩
    rcases List.mem_cons.1 hx with rfl | hx
    · rw [List.length_map] at hl; exact hl
    · exact h2 x hx
theorem rd_boolss (h : Rdx enc Try.prog W 57 cs) : ∃ (a : Option Addr) (cap : Nat) (l : List (List Bool)), cs = [.slice a l.length cap] ∧ l.length ≤ cap ∧ cap ≤ maxLen ∧ (∀ x ∈ l, x.length ≤ maxLen) ∧ RSl2 (Old W) a (l.map (·.map encB)) := by
  obtain ⟨a, cap, rows, h1, h2, h3, h4, h5⟩ := rd_rows (fun c => ∃ bl : List Bool, c = bl.map encB) (e := 41) (ei := 4) Try.underlying57 (by kernel_rfl) Try.underlying41 (by kernel_rfl) (fun c hc => bl_of fun v hv => by
    obtain ⟨b, e⟩ := rd_bool Try.underlying4 (hc v hv)
    exact ⟨b, by simpa using e⟩) h
  obtain ⟨l, rfl, hl⟩ := bls_of h4
  rw [List.length_map] at h1 h2
  exact ⟨a, cap, l, h1, h2, h3, hl, h5⟩
end Go.Proofs.Ytkebblmmgcgjkaa
