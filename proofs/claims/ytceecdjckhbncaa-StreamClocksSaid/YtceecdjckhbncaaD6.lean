/- Chapter 16: reading several streams. Conditions: none. -/
import Derived.Test.YtceecdjckhbncaaD5
namespace Go.Proofs.Ytceecdjckhbncaa
set_option linter.unusedVariables false
set_option linter.unusedSimpArgs false
set_option linter.unusedSectionVars false
open Go Go.Z Go.Z.Val

theorem rd_streams {H : Type} {enc : TypeId × Value → H} {W : World} {cs : List Value} (h : Rdx enc Try.prog W 24 cs) :
    ∃ (a : Option Addr) (cap : Nat) (l : List (List Ce)), cs = [.slice a l.length cap] ∧ l.length ≤ cap ∧ cap ≤ maxLen ∧ (∀ x ∈ l, ∀ c ∈ x, C64 c) ∧ SlS (Old W) a l := by
  obtain ⟨a, cap, l, h1, h2, h3, h4, h5⟩ := rd_list (fun x : Value × List Ce => (∀ c ∈ x.2, C64 c) ∧ ∃ ai ci, x.1 = .slice ai x.2.length ci ∧ RSl (Old W) 2 ai x.2.length (x.2.flatMap encC)) (fun x => [x.1]) Try.underlying24 (size := 1) (by kernel_rfl) (by decide) (fun c _ hc => by
    obtain ⟨ai, ci, r, g1, _, _, g4, g5⟩ := rd_cells hc
    exact ⟨(.slice ai r.length ci, r), g1, g4, ai, ci, rfl, g5⟩) h
  refine ⟨a, cap, l.map (·.2), by rw [List.length_map]; exact h1, by rw [List.length_map]; exact h2, h3, fun r hr => ?_, l.map (·.1), by simp, fun j hj => ?_, ?_⟩
  · obtain ⟨x, hx, rfl⟩ := List.mem_map.1 hr
    exact (h4 x hx).1
  · have hj' : j < l.length := by simpa using hj
    obtain ⟨_, ai, ci, e1, e2⟩ := h4 l[j] (List.getElem_mem hj')
    refine ⟨ai, ci, ?_, ?_⟩
    · rw [List.getElem?_map, List.getElem?_eq_getElem hj', List.getElem_map, Option.map_some, e1]
    · rw [List.getElem_map]; exact e2
  · rw [List.length_map, ← map_flat]; exact h5
end Go.Proofs.Ytceecdjckhbncaa
