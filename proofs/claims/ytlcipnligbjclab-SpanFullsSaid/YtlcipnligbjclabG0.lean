/- Chapter 40: SpanApplies, SpanSets, SpanOrders. Conditions: none. -/
import Derived.Test.YtlcipnligbjclabF9
namespace Go.Z
set_option linter.unusedVariables false
set_option linter.unusedSimpArgs false
set_option linter.unusedSectionVars false
open Go
variable {P : Program} {n : Nat} {L : Fr} {H : List Assn} {M : Mx}
variable {dd : Option Tmp} {ty t : TypeId} {ps : String} {af : Array Edge} {gd : Option (Nat × Bool)} {x y : Operand} {b c : Bool} {tz : TypeId} {yt : Ty}
theorem p_neqbF [ht : TyC P t yt] (hd : yt.d = .bool) (h1 : ev L x = some (.bool b)) (h2 : ev L y = some (.bool c)) (h : b = c) : Pur P M n L H ⟨dd, .binOp .neq t x y tz, ty, ps, af, gd⟩ (.bool false) := by
  have := p_neqb (P := P) (M := M) (n := n) (H := H) (dd := dd) (t := t) (tz := tz) (ty := ty) (ps := ps) (af := af) (gd := gd) hd h1 h2
  subst h; rwa [show (b == b) = true by simp] at this
end Go.Z
namespace Go.Z.Val
open Go Go.Z
theorem join_in {a1 a2 b1 b2 : Int} : (a2 < a1 ∨ (joinS (a1, a2) (b1, b2)).1 ≤ a1 ∧ a2 ≤ (joinS (a1, a2) (b1, b2)).2) ∧ (b2 < b1 ∨ (joinS (a1, a2) (b1, b2)).1 ≤ b1 ∧ b2 ≤ (joinS (a1, a2) (b1, b2)).2) ∧
    (∀ v, (a1 ≤ v ∧ v ≤ a2) ∨ (b1 ≤ v ∧ v ≤ b2) → (joinS (a1, a2) (b1, b2)).1 ≤ v ∧ v ≤ (joinS (a1, a2) (b1, b2)).2) ∧
    ((a2 < a1 ∨ b1 ≤ a1 ∧ a2 ≤ b2) → ((joinS (a1, a2) (b1, b2)).1 = b1 ∧ (joinS (a1, a2) (b1, b2)).2 = b2) ∨ b2 < b1) := by
  unfold joinS emptyS
  dsimp only
  by_cases h1 : a2 < a1
  · rw [if_pos (decide_eq_true h1)]
    unfold ofS
    split
    · exact ⟨.inl h1, .inl (by assumption), fun v hv => by dsimp only; omega, fun _ => .inr (by assumption)⟩
    · exact ⟨.inl h1, .inr ⟨Int.le_refl _, Int.le_refl _⟩, fun v hv => by dsimp only; omega, fun _ => .inl ⟨rfl, rfl⟩⟩
  · rw [if_neg (by simpa using h1)]
    by_cases h2 : b2 < b1
    · rw [if_pos (decide_eq_true h2)]
      exact ⟨.inr ⟨Int.le_refl _, Int.le_refl _⟩, .inl h2, fun v hv => by dsimp only; omega, fun _ => .inr h2⟩
    · rw [if_neg (by simpa using h2), ofS_of (by omega)]
      exact ⟨.inr ⟨by dsimp only; omega, by dsimp only; omega⟩, .inr ⟨by dsimp only; omega, by dsimp only; omega⟩, fun v hv => by dsimp only; omega, fun hv => .inl (by dsimp only; omega)⟩
theorem meet_in {a1 a2 b1 b2 : Int} : ((meetS (a1, a2) (b1, b2)).2 < (meetS (a1, a2) (b1, b2)).1 ∨ a1 ≤ (meetS (a1, a2) (b1, b2)).1 ∧ (meetS (a1, a2) (b1, b2)).2 ≤ a2) ∧ ((meetS (a1, a2) (b1, b2)).2 < (meetS (a1, a2) (b1, b2)).1 ∨ b1 ≤ (meetS (a1, a2) (b1, b2)).1 ∧ (meetS (a1, a2) (b1, b2)).2 ≤ b2) ∧
    ∀ v, ((meetS (a1, a2) (b1, b2)).1 ≤ v ∧ v ≤ (meetS (a1, a2) (b1, b2)).2) ↔ ((a1 ≤ v ∧ v ≤ a2) ∧ (b1 ≤ v ∧ v ≤ b2)) := by
  unfold meetS ofS
  dsimp only
  split
  · exact ⟨.inl (by decide), .inl (by decide), fun v => by dsimp only; omega⟩
  · exact ⟨.inr (by dsimp only; omega), .inr (by dsimp only; omega), fun v => by dsimp only; omega⟩
end Go.Z.Val
namespace Go.Proofs.Ytlcipnligbjclab
open Go Go.Z Go.Z.Val

/-- reading a row of intervals -/
theorem rd_spans {H : Type} {enc : TypeId × Value → H} {W : World} {cs : List Value} (h : Rdx enc Try.prog W 41 cs) :
    ∃ (a : Option Addr) (cap : Nat) (l : List Sp), cs = [.slice a l.length cap] ∧ l.length ≤ cap ∧ cap ≤ maxLen ∧ (∀ x ∈ l, C64 x) ∧ RSl (Old W) 2 a l.length (l.flatMap encC) := by
  refine rd_list (fun x : Sp => C64 x) encC Try.underlying41 (size := 2) (by kernel_rfl) (by decide) (fun c _ hc => ?_) h
  obtain ⟨hl, hf⟩ := rd_struct Try.underlying26 hc
  have h0 := hf 0 _ rfl
  have h1 := hf 1 _ rfl
  have hl2 : c.length = 2 := hl
  match c, hl2 with
  | [u, v], _ =>
    have h0' : Rdx enc Try.prog W 3 [u] := h0
    have h1' : Rdx enc Try.prog W 3 [v] := h1
    obtain ⟨x, e, wx⟩ := rd_int Try.underlying3 h0'
    cases e
    obtain ⟨y, e, wy⟩ := rd_int Try.underlying3 h1'
    cases e
    exact ⟨(x, y), rfl, wf_i64 wx, wf_i64 wy⟩
/-- reading an interval -/
theorem rd_span {H : Type} {enc : TypeId × Value → H} {W : World} {cs : List Value} (h : Rdx enc Try.prog W 26 cs) : ∃ x y : Int, cs = [.int .i64 x, .int .i64 y] ∧ I64 x ∧ I64 y := by
  obtain ⟨hl, hf⟩ := rd_struct Try.underlying26 h
  have h0 := hf 0 _ rfl
  have h1 := hf 1 _ rfl
  have hl2 : cs.length = 2 := hl
  match cs, hl2 with
  | [u, v], _ =>
    have h0' : Rdx enc Try.prog W 3 [u] := h0
    have h1' : Rdx enc Try.prog W 3 [v] := h1
    obtain ⟨x, e, wx⟩ := rd_int Try.underlying3 h0'
    cases e
    obtain ⟨y, e, wy⟩ := rd_int Try.underlying3 h1'
    cases e
    exact ⟨x, y, rfl, wf_i64 wx, wf_i64 wy⟩

theorem sp_q {ρ : Nat → Obj → Prop} {f : FuncId} {args : Array Value} {s : Sp} (h : Con Try.prog ρ f args [] (SpP s)) : Con Try.prog ρ f args [] (fun v H => v = .agg #[.int .i64 s.1, .int .i64 s.2] ∧ H = []) :=
  h.mono fun v H' ⟨u1, u2, e, hu, hH⟩ => by subst hu; exact ⟨e, hH⟩
theorem ap_q {ρ : Nat → Obj → Prop} {f : FuncId} {args : Array Value} {r : Sp × Int} (h : Con Try.prog ρ f args [] (ApP r)) : Con Try.prog ρ f args [] (fun v H => v = .tuple #[.agg #[.int .i64 r.1.1, .int .i64 r.1.2], .int .i64 r.2] ∧ H = []) :=
  h.mono fun v H' ⟨u1, u2, e, e1, hu, hH⟩ => by subst hu; exact ⟨e1, hH⟩
theorem bool_t {ρ : Nat → Obj → Prop} {f : FuncId} {args : Array Value} {p : Prop} [Decidable p] (h : Con Try.prog ρ f args [] (fun v H => v = .bool (decide p) ∧ H = [])) (hp : p) : Con Try.prog ρ f args [] (fun v H => v = .bool true ∧ H = []) :=
  h.mono fun v H' ⟨e, hH⟩ => by rw [decide_eq_true hp] at e; exact ⟨e, hH⟩

end Go.Proofs.Ytlcipnligbjclab
