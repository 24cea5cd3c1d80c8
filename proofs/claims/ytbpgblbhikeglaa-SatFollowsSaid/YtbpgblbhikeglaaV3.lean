/- Chapter 37: reading a formula that came in. Conditions: none. -/
import Derived.Test.YtbpgblbhikeglaaV2
namespace Go.Proofs.Ytbpgblbhikeglaa
set_option linter.unusedVariables false
set_option linter.unusedSimpArgs false
set_option linter.unusedSectionVars false
open Go Go.Z Go.Z.Sat
theorem rdw_int1 {H : Type} {enc : TypeId × Value → H} {W : World} {c : List Value} (h : Rdw enc Try.prog W 3 c) : ∃ x : Int, c = [encI x] ∧ I64 x := by
  obtain ⟨x, e, w⟩ := rd_int Try.underlying3 h.rdx
  exact ⟨x, e, wf_i64 w⟩
theorem rd_ints {H : Type} {enc : TypeId × Value → H} {W : World} {c : List Value} (h : ∀ v ∈ c, Rdw enc Try.prog W 3 [v]) : ∃ l : List Int, c = l.map encI ∧ ∀ x ∈ l, I64 x := by
  induction c with
  | nil => exact ⟨[], rfl, fun x hx => absurd hx List.not_mem_nil⟩
  | cons v c ih =>
    obtain ⟨l, rfl, hl⟩ := ih fun u hu => h u (List.mem_cons_of_mem _ hu)
    obtain ⟨x, e, hx⟩ := rdw_int1 (h v (by simp))
    cases e
    refine ⟨x :: l, rfl, fun y hy => ?_⟩
    rcases List.mem_cons.1 hy with rfl | hy
    · exact hx
    · exact hl y hy
theorem rd_formula {H : Type} {enc : TypeId × Value → H} {W : World} {cs : List Value} (h : Rdw enc Try.prog W 24 cs) : ∃ (n : Int) (ca : Option Addr) (cc : Nat) (F : Fm), cs = [.int .i64 n, .slice ca F.length cc] ∧ FmI (Old W) n ca F := by
  obtain ⟨hl, hf⟩ := rdw_struct Try.underlying24 h
  have h0 := hf 0 _ rfl
  have h1 := hf 1 _ rfl
  have hl2 : cs.length = 2 := hl
  match cs, hl2 with
  | [u, v], _ =>
    have h0' : Rdw enc Try.prog W 3 [u] := h0
    have h1' : Rdw enc Try.prog W 22 [v] := h1
    obtain ⟨n, e, hn⟩ := rdw_int1 h0'
    cases e
    obtain ⟨a, cap, rows, e, k1, k2, k3, k4, k7⟩ := rdw_rows (fun c => ∃ l : List Int, c = l.map encI ∧ ∀ x ∈ l, I64 x) Try.underlying22 (by kernel_rfl) Try.underlying43 (by kernel_rfl) (fun c hc => rd_ints hc) h1'
    cases e
    obtain ⟨F, rfl, hF⟩ := rows_with (fun l : List Int => (∀ x ∈ l, I64 x) ∧ l.length ≤ 17592186044416) (fun l : List Int => l.map encI) (xss := rows) fun c hc => by
      obtain ⟨⟨l, rfl, hl⟩, k5, k6⟩ := k3 c hc
      refine ⟨l, rfl, hl, ?_⟩
      rw [show Try.prog.bytesOf 3 = 8 by kernel_rfl, List.length_map] at k6
      omega
    rw [show Try.prog.bytesOf 43 = 24 by kernel_rfl] at k7
    rw [List.length_map] at k1
    refine ⟨n, a, cap, F, by rw [List.length_map]; rfl, ⟨k4, by omega, fun c hc => by have := (hF c hc).2; omega, fun c hc => (hF c hc).1⟩, hn, fun c hc => (hF c hc).2⟩
end Go.Proofs.Ytbpgblbhikeglaa
