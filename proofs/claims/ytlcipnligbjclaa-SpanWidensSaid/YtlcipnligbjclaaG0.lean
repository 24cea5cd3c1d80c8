/- Chapter 40: SpanApplies, SpanSets, SpanOrders. Conditions: none. -/
import Derived.Test.YtlcipnligbjclaaF9
namespace Go.Z
set_option linter.unusedVariables false
set_option linter.unusedSimpArgs false
set_option linter.unusedSectionVars false
open Go
variable {P : Program} {n : Nat} {L : Fr} {H : List Assn} {M : Mx}
variable {dd : Option Tmp} {ty t : TypeId} {ps : String} {af : Array Edge} {gd : Option (Nat × Bool)} {x y : Operand} {b c : Bool} {tz : TypeId} {yt : Ty}
theorem p_neqbF [ht : TyC P t yt] (hd : yt.d = .bool) (h1 : ev L x = some (.bool b)) (h2 : ev L y = some (.bool c)) (h : b = c) : Pur P M n L H ⟨dd, .binOp .neq t x y tz, ty, ps, af, gd⟩ (.bool false) := by
  have := p_neqb (P := P) (M := M) (n := n) (H := H) (dd := dd) (t := t) (tz := tz) (ty := ty) (ps := ps) (af := af) (gd := gd) hd h1 h2
  subst h; rwa [show (b == b) = true by simp] at this
end Go.Z
namespace Go.Z.Val
open Go Go.Z
theorem join_in {a1 a2 b1 b2 : Int} : (a2 < a1 ∨ (joinS (a1, a2) (b1, b2)).1 ≤ a1 ∧ a2 ≤ (joinS (a1, a2) (b1, b2)).2) ∧ (b2 < b1 ∨ (joinS (a1, a2) (b1, b2)).1 ≤ b1 ∧ b2 ≤ (joinS (a1, a2) (b1, b2)).2) ∧
    (∀ v, (a1 ≤ v ∧ v ≤ a2) ∨ (b1 ≤ v ∧ v ≤ b2) → (joinS (a1, a2) (b1, b2)).1 ≤ v ∧ v ≤ (joinS (a1, a2) (b1, b2)).2) ∧
    ((a2 < a1 ∨ b1 ≤ a1 ∧ a2 ≤ b2) → ((joinS (a1, a2) (b1, b2)).1 = b1 ∧ (joinS (a1, a2) (b1, b2)).2 = b2) ∨ b2 < b1) := by
  unfold joinS emptyS
  dsimp only
  by_cases h1 : a2 < a1
  · rw [if_pos (decide_eq_true h1)]
    unfold ofS
    split
    · exact ⟨.inl h1, .inl (by assumption), fun v hv => by dsimp only; omega, fun _ => .inr (by assumption)⟩
    · exact ⟨.inl h1, .inr ⟨Int.le_refl _, Int.le_refl _⟩, fun v hv => by dsimp only; omega, fun _ => .inl ⟨rfl, rfl⟩⟩
  · rw [if_neg (by simpa using h1)]
    by_cases h2 : b2 < b1
    · rw [if_pos (decide_eq_true h2)]
      exact ⟨.inr ⟨Int.le_refl _, Int.le_refl _⟩, .inl h2, fun v hv => by dsimp only; omega, fun _ => .inr h2⟩
    · rw [if_neg (by simpa using h2), ofS_of (by omega)]
      exact ⟨.inr ⟨by dsimp only; omega, by dsimp only; omega⟩, .inr ⟨by dsimp only; omega, by dsimp only; omega⟩, fun v hv => by dsimp only; omega, fun hv => .inl (by dsimp only; omega)⟩
theorem meet_in {a1 a2 b1 b2 : Int} : ((meetS (a1, a2) (b1, b2)).2 < (meetS (a1, a2) (b1, b2)).1 ∨ a1 ≤ (meetS (a1, a2) (b1, b2)).1 ∧ (meetS (a1, a2) (b1, b2)).2 ≤ a2) ∧ ((meetS (a1, a2) (b1, b2)).2 < (meetS (a1, a2) (b1, b2)).1 ∨ b1 ≤ (meetS (a1, a2) (b1, b2)).1 ∧ (meetS (a1, a2) (b1, b2)).2 ≤ b2) ∧
    ∀ v, ((meetS (a1, a2) (b1, b2)).1 ≤ v ∧ v ≤ (meetS (a1, a2) (b1, b2)).2) ↔ ((a1 ≤ v ∧ v ≤ a2) ∧ (b1 ≤ v ∧ v ≤ b2)) := by
  unfold meetS ofS
  dsimp only
  split
  · exact ⟨.inl (by decide), .inl (by decide), fun v => by dsimp only; omega⟩
  · exact ⟨.inr (by dsimp only; omega), .inr (by dsimp only; omega), fun v => by dsimp only; omega⟩
end Go.Z.Val
namespace Go.Proofs.Ytlcipnligbjclaa
open Go Go.Z Go.Z.Val

/-- reading a row of intervals -/
theorem rd_spans {H : Type} {enc : TypeId × Value → H} {W : World} {cs : List Value} (h : Rdx enc Try.prog W 22 cs) :
    ∃ (a : Option Addr) (cap : Nat) (l : List Sp), cs = [.slice a l.length cap] ∧ l.length ≤ cap ∧ cap ≤ maxLen ∧ (∀ x ∈ l, C64 x) ∧ RSl (Old W) 2 a l.length (l.flatMap encC) := by
  refine rd_list (fun x : Sp => C64 x) encC Try.underlying22 (size := 2) (by kernel_rfl) (by decide) (fun c _ hc => ?_) h
  obtain ⟨hl, hf⟩ := rd_struct Try.underlying25 hc
  have h0 := hf 0 _ rfl
  have h1 := hf 1 _ rfl
  have hl2 : c.length = 2 := hl
  match c, hl2 with
  | [u, v], _ =>
    have h0' : Rdx enc Try.prog W 3 [u] := h0
    have h1' : Rdx enc Try.prog W 3 [v] := h1
    obtain ⟨x, e, wx⟩ := rd_int Try.underlying3 h0'
    cases e
    obtain ⟨y, e, wy⟩ := rd_int Try.underlying3 h1'
    cases e
    exact ⟨(x, y), rfl, wf_i64 wx, wf_i64 wy⟩
/-- reading an interval -/
theorem rd_span {H : Type} {enc : TypeId × Value → H} {W : World} {cs : List Value} (h : Rdx enc Try.prog W 25 cs) : ∃ x y : Int, cs = [.int .i64 x, .int .i64 y] ∧ I64 x ∧ I64 y := by
  obtain ⟨hl, hf⟩ := rd_struct Try.underlying25 h
  have h0 := hf 0 _ rfl
  have h1 := hf 1 _ rfl
  have hl2 : cs.length = 2 := hl
  match cs, hl2 with
  | [u, v], _ =>
    have h0' : Rdx enc Try.prog W 3 [u] := h0
    have h1' : Rdx enc Try.prog W 3 [v] := h1
    obtain ⟨x, e, wx⟩ := rd_int Try.underlying3 h0'
    cases e
    obtain ⟨y, e, wy⟩ := rd_int Try.underlying3 h1'
    cases e
    exact ⟨x, y, rfl, wf_i64 wx, wf_i64 wy⟩

theorem sp_q {ρ : Nat → Obj → Prop} {f : FuncId} {args : Array Value} {s : Sp} (h : Con Try.prog ρ f args [] (SpP s)) : Con Try.prog ρ f args [] (fun v H => v = .agg #[.int .i64 s.1, .int .i64 s.2] ∧ H = []) :=
  h.mono fun v H' ⟨u1, u2, e, hu, hH⟩ => by subst hu; exact ⟨e, hH⟩
theorem ap_q {ρ : Nat → Obj → Prop} {f : FuncId} {args : Array Value} {r : Sp × Int} (h : Con Try.prog ρ f args [] (ApP r)) : Con Try.prog ρ f args [] (fun v H => v = .tuple #[.agg #[.int .i64 r.1.1, .int .i64 r.1.2], .int .i64 r.2] ∧ H = []) :=
  h.mono fun v H' ⟨u1, u2, e, e1, hu, hH⟩ => by subst hu; exact ⟨e1, hH⟩
theorem bool_t {ρ : Nat → Obj → Prop} {f : FuncId} {args : Array Value} {p : Prop} [Decidable p] (h : Con Try.prog ρ f args [] (fun v H => v = .bool (decide p) ∧ H = [])) (hp : p) : Con Try.prog ρ f args [] (fun v H => v = .bool true ∧ H = []) :=
  h.mono fun v H' ⟨e, hH⟩ => by rw [decide_eq_true hp] at e; exact ⟨e, hH⟩

theorem applies_ok {ρ : Nat → Obj → Prop} (op : Int) {aa : Option Addr} {ac : Nat} {args : List Sp} (ha : RSl ρ 2 aa args.length (args.flatMap encC)) :
    Con Try.prog ρ 3 #[.int .i64 op, .slice aa args.length ac] [] (fun v _ => v = .bool true) := by
  refine con_intro Try.func3 Try.call3 rfl Try.ntmps3 rfl (L := [(0, _), (1, _)]) rfl fun w hh => ?_
  refine g_seq ?_
  refine g_region ?_
  refine g_pure (p_assign rfl) rfl ?_
  refine g_nil ?_
  refine g_qt ?_
  refine g_seq ?_
  refine g_seq ?_
  refine g_region ?_
  refine g_pure (p_move rfl) rfl ?_
  refine g_pure (p_len (by rfl) rfl) rfl ?_
  refine g_pure (p_gtr rfl rfl) rfl ?_
  refine g_nil ?_
  refine g_qt ?_
  refine g_ifd rfl (fun h => ?_) (fun h => ?_)
  · refine g_seq ?_
    refine g_region ?_
    refine g_call (Hin := []) (Hr := ?hr1) (R := ?rr1) rfl rfl rfl ?hin1 ?hc1 ?hk1
    case hin1 => repeat' (first | exact Cover.nil | exact Take.here | apply Cover.cons | apply Take.there)
    case hc1 => intro ρ' hρ hR; exact awake_ok
    rintro _ _ ⟨rfl, rfl⟩
    refine g_pure (p_assign rfl) rfl ?_
    refine g_nil ?_
    refine g_qt ?_
    refine g_ret ?_
    refine g_qt_ret ?_
    exact g_post (Ho := []) (rs := [.tmp 4]) rfl (.tmp rfl .nil) rfl .nil
  · refine g_skip ?_
    refine g_qt ?_
    refine g_seq ?_
    refine g_region ?_
    refine g_pure (p_move rfl) rfl ?_
    refine g_pure (p_move rfl) rfl ?_
    refine g_call (Hin := []) (Hr := ?hr2) (R := ?rr2) rfl rfl rfl ?hin2 ?hc2 ?hk2
    case hin2 => repeat' (first | exact Cover.nil | exact Take.here | apply Cover.cons | apply Take.there)
    case hc2 => intro ρ' hρ hR; exact ap_q (sapply_ok op (ha.mono hρ) (by omega))
    rintro _ _ ⟨rfl, rfl⟩
    refine g_pure (p_move rfl) rfl ?_
    refine g_pure (p_extract rfl rfl) rfl ?_
    refine g_pure (p_extract rfl rfl) rfl ?_
    refine g_eff (e_alloc (by rfl)) rfl (fun _ _ => ?_)
    rintro ⟨b5, rfl, rfl⟩
    first | refine g_eff0 (e_storeO rfl rfl (by rfl) (by rfl) (by rfl) (by repeat' (first | exact Take.here | apply Take.there)) (by rfl)) (fun _ _ => ?_) | refine g_eff0 (e_storeN rfl rfl (by rfl) (by rfl) (by rfl) (by repeat' (first | exact Take.here | apply Take.there)) (by simp)) (fun _ _ => ?_)
    rintro rfl
    refine g_pure (p_assign rfl) rfl ?_
    refine g_nil ?_
    refine g_qt ?_
    refine g_seq ?_
    refine g_region ?_
    refine g_pure (p_move rfl) rfl ?_
    refine g_pure (p_move rfl) rfl ?_
    refine g_call (Hin := []) (Hr := ?hr3) (R := ?rr3) rfl rfl rfl ?hin3 ?hc3 ?hk3
    case hin3 => repeat' (first | exact Cover.nil | exact Take.here | apply Cover.cons | apply Take.there)
    case hc3 => intro ρ' hρ hR; exact ap_q (dsapply_ok op (ha.mono hρ) (by omega))
    rintro _ _ ⟨rfl, rfl⟩
    refine g_pure (p_move rfl) rfl ?_
    refine g_pure (p_extract rfl rfl) rfl ?_
    refine g_pure (p_extract rfl rfl) rfl ?_
    refine g_eff (e_alloc (by rfl)) rfl (fun _ _ => ?_)
    rintro ⟨b7, rfl, rfl⟩
    first | refine g_eff0 (e_storeO rfl rfl (by rfl) (by rfl) (by rfl) (by repeat' (first | exact Take.here | apply Take.there)) (by rfl)) (fun _ _ => ?_) | refine g_eff0 (e_storeN rfl rfl (by rfl) (by rfl) (by rfl) (by repeat' (first | exact Take.here | apply Take.there)) (by simp)) (fun _ _ => ?_)
    rintro rfl
    refine g_pure (p_assign rfl) rfl ?_
    refine g_nil ?_
    refine g_qt ?_
    refine g_seq ?_
    refine g_region ?_
    first | refine g_pure (p_loadO (by rfl) rfl (by first | (apply Has.own; (repeat' (first | exact Take.here | apply Take.there)); done) | exact Has.ro (by assumption)) (by rfl)) rfl ?_ | refine g_pure (p_loadN (by rfl) rfl (by first | (apply Has.own; (repeat' (first | exact Take.here | apply Take.there)); done) | exact Has.ro (by assumption)) (by first | rfl | assumption)) rfl ?_
    first | refine g_pure (p_loadO (by rfl) rfl (by first | (apply Has.own; (repeat' (first | exact Take.here | apply Take.there)); done) | exact Has.ro (by assumption)) (by rfl)) rfl ?_ | refine g_pure (p_loadN (by rfl) rfl (by first | (apply Has.own; (repeat' (first | exact Take.here | apply Take.there)); done) | exact Has.ro (by assumption)) (by first | rfl | assumption)) rfl ?_
    refine g_pure (p_eqagg (eqSpanT 9998 _ _) (by kernel_rfl) rfl rfl) rfl ?_
    refine g_pure (p_move rfl) rfl ?_
    refine g_yes rfl rfl ?_
    refine g_pure (p_move rfl) rfl ?_
    refine g_yes rfl rfl ?_
    refine g_pure (p_move rfl) rfl ?_
    refine g_yes rfl rfl ?_
    refine g_pure (p_eqlT rfl rfl rfl) rfl ?_
    first | refine g_pure (p_pickt rfl rfl) rfl ?_ | refine g_pure (p_pickf rfl rfl) rfl ?_
    refine g_pure (p_move rfl) rfl ?_
    refine g_yes rfl rfl ?_
    refine g_call (Hin := []) (Hr := ?hr4) (R := ?rr4) rfl rfl rfl ?hin4 ?hc4 ?hk4
    case hin4 => repeat' (first | exact Cover.nil | exact Take.here | apply Cover.cons | apply Take.there)
    case hc4 => intro ρ' hρ hR; exact awake_ok
    rintro _ _ ⟨rfl, rfl⟩
    first | refine g_pure (p_pickt rfl rfl) rfl ?_ | refine g_pure (p_pickf rfl rfl) rfl ?_
    refine g_pure (p_assign rfl) rfl ?_
    refine g_nil ?_
    refine g_qt ?_
    refine g_ret ?_
    exact g_post (Ho := []) (rs := [.tmp 4]) rfl (.tmp rfl .nil) rfl .nil

set_option maxHeartbeats 1600000 in
theorem ssets_ok {ρ : Nat → Obj → Prop} (x1 x2 y1 y2 lo hi : Int) :
    Con Try.prog ρ 6 #[.agg #[.int .i64 x1, .int .i64 x2], .agg #[.int .i64 y1, .int .i64 y2], .int .i64 lo, .int .i64 hi] [] (fun v _ => v = .bool true) := by
  refine con_intro Try.func6 Try.call6 rfl Try.ntmps6 rfl (L := [(0, _), (1, _), (2, _), (3, _)]) rfl fun w hh => ?_
  refine g_seq ?_
  refine g_region ?_
  refine g_eff (e_box rfl (by rfl)) rfl (fun _ _ => ?_)
  rintro ⟨b4, rfl, rfl⟩
  refine g_eff (e_box rfl (by rfl)) rfl (fun _ _ => ?_)
  rintro ⟨b5, rfl, rfl⟩
  refine g_pure (p_assign rfl) rfl ?_
  refine g_nil ?_
  refine g_qt ?_
  refine g_seq ?_
  refine g_seq ?_
  refine m_begin0 (.fl 0 0 (.fl 1 0 (.fl 3 0 (.fl 4 0 (.ef 2 (.ef 5 (.fl 6 0 (.fl 7 0 (.fl 8 1 (.fl 10 1 (.ef 9 (.ef 11 (.fl 12 0 (.fl 13 0 (.fl 14 0 (.fl 15 1 (.fl 16 0 (.fl 18 1 (.fl 19 0 (.ef 17 (.ef 20 (.fl 21 0 (.fl 22 0 (.fl 23 0 (.fl 24 1 (.fl 25 1 (.fl 27 1 (.fl 28 1 (.ef 26 (.ef 29 (.fl 30 0 (.fl 31 0 .done)))))))))))))))))))))))))))))))) (by kernel_rfl) (by kernel_rfl) ?_
  refine m_float0 rfl (fun _ _ => p_move rfl) rfl ?_
  refine m_float0 rfl (fun _ _ => p_move rfl) rfl ?_
  refine m_float0 rfl (fun _ _ => p_move rfl) rfl ?_
  refine m_float0 rfl (fun _ _ => p_move rfl) rfl ?_
  refine m_call (Hin := []) (Hr := ?hr5) (R := ?rr5) rfl wantedN rfl rfl rfl ?hin5 ?hc5 ?hk5
  case hin5 => repeat' (first | exact Cover.nil | exact Take.here | apply Cover.cons | apply Take.there)
  case hc5 => intro ρ' hρ hR; exact sp_q (of_ok _ _)
  rintro _ _ ⟨rfl, rfl⟩
  refine ⟨.some (by repeat' (first | exact Cover.nil | exact Take.here | apply Cover.cons | apply Take.there)), ?_⟩
  refine m_call (Hin := []) (Hr := ?hr6) (R := ?rr6) rfl wantedN rfl rfl rfl ?hin6 ?hc6 ?hk6
  case hin6 => repeat' (first | exact Cover.nil | exact Take.here | apply Cover.cons | apply Take.there)
  case hc6 => intro ρ' hρ hR; exact sp_q (dof_ok _ _)
  rintro _ _ ⟨rfl, rfl⟩
  refine ⟨.some (by repeat' (first | exact Cover.nil | exact Take.here | apply Cover.cons | apply Take.there)), ?_⟩
  refine m_float0 rfl (fun _ _ => p_neagg (eqSpanT 9998 _ _) (by kernel_rfl) rfl rfl) rfl ?_
  refine m_float0 rfl (fun _ _ => p_move rfl) rfl ?_
  first | refine m_yes rfl rfl rfl (p_loadO (by rfl) rfl (by first | (apply Has.own; (repeat' (first | exact Take.here | apply Take.there)); done) | exact Has.ro (by assumption)) (by rfl)) rfl ?_ | refine m_yes rfl rfl rfl (p_loadN (by rfl) rfl (by first | (apply Has.own; (repeat' (first | exact Take.here | apply Take.there)); done) | exact Has.ro (by assumption)) (by first | rfl | assumption)) rfl ?_
  first | refine m_yes rfl rfl rfl (p_loadO (by rfl) rfl (by first | (apply Has.own; (repeat' (first | exact Take.here | apply Take.there)); done) | exact Has.ro (by assumption)) (by rfl)) rfl ?_ | refine m_yes rfl rfl rfl (p_loadN (by rfl) rfl (by first | (apply Has.own; (repeat' (first | exact Take.here | apply Take.there)); done) | exact Has.ro (by assumption)) (by first | rfl | assumption)) rfl ?_
  refine m_call (Hin := []) (Hr := ?hr7) (R := ?rr7) rfl (wantedY rfl rfl) rfl rfl rfl ?hin7 ?hc7 ?hk7
  case hin7 => repeat' (first | exact Cover.nil | exact Take.here | apply Cover.cons | apply Take.there)
  case hc7 => intro ρ' hρ hR; exact empty_ok _ _
  rintro _ _ ⟨rfl, rfl⟩
  refine ⟨.some (by repeat' (first | exact Cover.nil | exact Take.here | apply Cover.cons | apply Take.there)), ?_⟩
  refine m_call (Hin := []) (Hr := ?hr8) (R := ?rr8) rfl (wantedY rfl rfl) rfl rfl rfl ?hin8 ?hc8 ?hk8
  case hin8 => repeat' (first | exact Cover.nil | exact Take.here | apply Cover.cons | apply Take.there)
  case hc8 => intro ρ' hρ hR; exact dempty_ok _ _
  rintro _ _ ⟨rfl, rfl⟩
  refine ⟨.some (by repeat' (first | exact Cover.nil | exact Take.here | apply Cover.cons | apply Take.there)), ?_⟩
  refine m_yes0 rfl rfl rfl (fun _ _ => p_neqbF (by rfl) rfl rfl rfl) rfl ?_
  first | refine m_float0 rfl (fun _ _ => p_pickt rfl rfl) rfl ?_ | refine m_float0 rfl (fun _ _ => p_pickf rfl rfl) rfl ?_
  refine m_float0 rfl (fun _ _ => p_move rfl) rfl ?_
  first | refine m_yes rfl rfl rfl (p_loadO (by rfl) rfl (by first | (apply Has.own; (repeat' (first | exact Take.here | apply Take.there)); done) | exact Has.ro (by assumption)) (by rfl)) rfl ?_ | refine m_yes rfl rfl rfl (p_loadN (by rfl) rfl (by first | (apply Has.own; (repeat' (first | exact Take.here | apply Take.there)); done) | exact Has.ro (by assumption)) (by first | rfl | assumption)) rfl ?_
  refine m_yes0 rfl rfl rfl (fun _ _ => p_move rfl) rfl ?_
  first | refine m_yes rfl rfl rfl (p_loadO (by rfl) rfl (by first | (apply Has.own; (repeat' (first | exact Take.here | apply Take.there)); done) | exact Has.ro (by assumption)) (by rfl)) rfl ?_ | refine m_yes rfl rfl rfl (p_loadN (by rfl) rfl (by first | (apply Has.own; (repeat' (first | exact Take.here | apply Take.there)); done) | exact Has.ro (by assumption)) (by first | rfl | assumption)) rfl ?_
  refine m_yes0 rfl rfl rfl (fun _ _ => p_move rfl) rfl ?_
  refine m_call (Hin := []) (Hr := ?hr9) (R := ?rr9) rfl (wantedY rfl rfl) rfl rfl rfl ?hin9 ?hc9 ?hk9
  case hin9 => repeat' (first | exact Cover.nil | exact Take.here | apply Cover.cons | apply Take.there)
  case hc9 => intro ρ' hρ hR; exact has_ok _ _ _
  rintro _ _ ⟨rfl, rfl⟩
  refine ⟨.some (by repeat' (first | exact Cover.nil | exact Take.here | apply Cover.cons | apply Take.there)), ?_⟩
  refine m_call (Hin := []) (Hr := ?hr10) (R := ?rr10) rfl (wantedY rfl rfl) rfl rfl rfl ?hin10 ?hc10 ?hk10
  case hin10 => repeat' (first | exact Cover.nil | exact Take.here | apply Cover.cons | apply Take.there)
  case hc10 => intro ρ' hρ hR; exact dhas_ok _ _ _
  rintro _ _ ⟨rfl, rfl⟩
  refine ⟨.some (by repeat' (first | exact Cover.nil | exact Take.here | apply Cover.cons | apply Take.there)), ?_⟩
  refine m_yes0 rfl rfl rfl (fun _ _ => p_neqbF (by rfl) rfl rfl rfl) rfl ?_
  first | refine m_float0 rfl (fun _ _ => p_pickt rfl rfl) rfl ?_ | refine m_float0 rfl (fun _ _ => p_pickf rfl rfl) rfl ?_
  refine m_float0 rfl (fun _ _ => p_move rfl) rfl ?_
  first | refine m_yes rfl rfl rfl (p_loadO (by rfl) rfl (by first | (apply Has.own; (repeat' (first | exact Take.here | apply Take.there)); done) | exact Has.ro (by assumption)) (by rfl)) rfl ?_ | refine m_yes rfl rfl rfl (p_loadN (by rfl) rfl (by first | (apply Has.own; (repeat' (first | exact Take.here | apply Take.there)); done) | exact Has.ro (by assumption)) (by first | rfl | assumption)) rfl ?_
  first | refine m_yes rfl rfl rfl (p_loadO (by rfl) rfl (by first | (apply Has.own; (repeat' (first | exact Take.here | apply Take.there)); done) | exact Has.ro (by assumption)) (by rfl)) rfl ?_ | refine m_yes rfl rfl rfl (p_loadN (by rfl) rfl (by first | (apply Has.own; (repeat' (first | exact Take.here | apply Take.there)); done) | exact Has.ro (by assumption)) (by first | rfl | assumption)) rfl ?_
  first | refine m_yes rfl rfl rfl (p_loadO (by rfl) rfl (by first | (apply Has.own; (repeat' (first | exact Take.here | apply Take.there)); done) | exact Has.ro (by assumption)) (by rfl)) rfl ?_ | refine m_yes rfl rfl rfl (p_loadN (by rfl) rfl (by first | (apply Has.own; (repeat' (first | exact Take.here | apply Take.there)); done) | exact Has.ro (by assumption)) (by first | rfl | assumption)) rfl ?_
  first | refine m_yes rfl rfl rfl (p_loadO (by rfl) rfl (by first | (apply Has.own; (repeat' (first | exact Take.here | apply Take.there)); done) | exact Has.ro (by assumption)) (by rfl)) rfl ?_ | refine m_yes rfl rfl rfl (p_loadN (by rfl) rfl (by first | (apply Has.own; (repeat' (first | exact Take.here | apply Take.there)); done) | exact Has.ro (by assumption)) (by first | rfl | assumption)) rfl ?_
  refine m_call (Hin := []) (Hr := ?hr11) (R := ?rr11) rfl (wantedY rfl rfl) rfl rfl rfl ?hin11 ?hc11 ?hk11
  case hin11 => repeat' (first | exact Cover.nil | exact Take.here | apply Cover.cons | apply Take.there)
  case hc11 => intro ρ' hρ hR; exact within_ok _ _ _ _
  rintro _ _ ⟨rfl, rfl⟩
  refine ⟨.some (by repeat' (first | exact Cover.nil | exact Take.here | apply Cover.cons | apply Take.there)), ?_⟩
  refine m_call (Hin := []) (Hr := ?hr12) (R := ?rr12) rfl (wantedY rfl rfl) rfl rfl rfl ?hin12 ?hc12 ?hk12
  case hin12 => repeat' (first | exact Cover.nil | exact Take.here | apply Cover.cons | apply Take.there)
  case hc12 => intro ρ' hρ hR; exact dwithin_ok _ _ _ _
  rintro _ _ ⟨rfl, rfl⟩
  refine ⟨.none (by kernel_rfl), ?_⟩
  refine m_yes0 rfl rfl rfl (fun _ _ => p_neqbF (by rfl) rfl rfl rfl) rfl ?_
  first | refine m_float0 rfl (fun _ _ => p_pickt rfl rfl) rfl ?_ | refine m_float0 rfl (fun _ _ => p_pickf rfl rfl) rfl ?_
  refine m_nil ?_
  refine g_qt ?_
  refine g_iff rfl ?_
  refine g_skip ?_
  refine g_qt ?_
  refine g_seq ?_
  refine m_begin0 (.fl 0 1 (.fl 1 1 (.fl 3 1 (.fl 4 1 (.ef 2 (.ef 5 (.fl 6 0 (.fl 7 0 (.fl 8 1 (.fl 9 1 (.fl 11 1 (.fl 12 1 (.ef 10 (.ef 13 (.fl 14 0 (.fl 15 0 (.fl 16 0 (.ef 17 (.fl 18 0 (.fl 19 0 .done)))))))))))))))))))) (by kernel_rfl) (by kernel_rfl) ?_
  first | refine m_float rfl (p_loadO (by rfl) rfl (by first | (apply Has.own; (repeat' (first | exact Take.here | apply Take.there)); done) | exact Has.ro (by assumption)) (by rfl)) rfl ?_ | refine m_float rfl (p_loadN (by rfl) rfl (by first | (apply Has.own; (repeat' (first | exact Take.here | apply Take.there)); done) | exact Has.ro (by assumption)) (by first | rfl | assumption)) rfl ?_
  first | refine m_float rfl (p_loadO (by rfl) rfl (by first | (apply Has.own; (repeat' (first | exact Take.here | apply Take.there)); done) | exact Has.ro (by assumption)) (by rfl)) rfl ?_ | refine m_float rfl (p_loadN (by rfl) rfl (by first | (apply Has.own; (repeat' (first | exact Take.here | apply Take.there)); done) | exact Has.ro (by assumption)) (by first | rfl | assumption)) rfl ?_
  first | refine m_float rfl (p_loadO (by rfl) rfl (by first | (apply Has.own; (repeat' (first | exact Take.here | apply Take.there)); done) | exact Has.ro (by assumption)) (by rfl)) rfl ?_ | refine m_float rfl (p_loadN (by rfl) rfl (by first | (apply Has.own; (repeat' (first | exact Take.here | apply Take.there)); done) | exact Has.ro (by assumption)) (by first | rfl | assumption)) rfl ?_
  first | refine m_float rfl (p_loadO (by rfl) rfl (by first | (apply Has.own; (repeat' (first | exact Take.here | apply Take.there)); done) | exact Has.ro (by assumption)) (by rfl)) rfl ?_ | refine m_float rfl (p_loadN (by rfl) rfl (by first | (apply Has.own; (repeat' (first | exact Take.here | apply Take.there)); done) | exact Has.ro (by assumption)) (by first | rfl | assumption)) rfl ?_
  refine m_call (Hin := []) (Hr := ?hr13) (R := ?rr13) rfl wantedN rfl rfl rfl ?hin13 ?hc13 ?hk13
  case hin13 => repeat' (first | exact Cover.nil | exact Take.here | apply Cover.cons | apply Take.there)
  case hc13 => intro ρ' hρ hR; exact sp_q (join_ok _ _ _ _)
  rintro _ _ ⟨rfl, rfl⟩
  refine ⟨.some (by repeat' (first | exact Cover.nil | exact Take.here | apply Cover.cons | apply Take.there)), ?_⟩
  refine m_call (Hin := []) (Hr := ?hr14) (R := ?rr14) rfl wantedN rfl rfl rfl ?hin14 ?hc14 ?hk14
  case hin14 => repeat' (first | exact Cover.nil | exact Take.here | apply Cover.cons | apply Take.there)
  case hc14 => intro ρ' hρ hR; exact sp_q (djoin_ok _ _ _ _)
  rintro _ _ ⟨rfl, rfl⟩
  refine ⟨.some (by repeat' (first | exact Cover.nil | exact Take.here | apply Cover.cons | apply Take.there)), ?_⟩
  refine m_float0 rfl (fun _ _ => p_eqagg (eqSpanT 9998 _ _) (by kernel_rfl) rfl rfl) rfl ?_
  refine m_float0 rfl (fun _ _ => p_move rfl) rfl ?_
  first | refine m_yes rfl rfl rfl (p_loadO (by rfl) rfl (by first | (apply Has.own; (repeat' (first | exact Take.here | apply Take.there)); done) | exact Has.ro (by assumption)) (by rfl)) rfl ?_ | refine m_yes rfl rfl rfl (p_loadN (by rfl) rfl (by first | (apply Has.own; (repeat' (first | exact Take.here | apply Take.there)); done) | exact Has.ro (by assumption)) (by first | rfl | assumption)) rfl ?_
  first | refine m_yes rfl rfl rfl (p_loadO (by rfl) rfl (by first | (apply Has.own; (repeat' (first | exact Take.here | apply Take.there)); done) | exact Has.ro (by assumption)) (by rfl)) rfl ?_ | refine m_yes rfl rfl rfl (p_loadN (by rfl) rfl (by first | (apply Has.own; (repeat' (first | exact Take.here | apply Take.there)); done) | exact Has.ro (by assumption)) (by first | rfl | assumption)) rfl ?_
  first | refine m_yes rfl rfl rfl (p_loadO (by rfl) rfl (by first | (apply Has.own; (repeat' (first | exact Take.here | apply Take.there)); done) | exact Has.ro (by assumption)) (by rfl)) rfl ?_ | refine m_yes rfl rfl rfl (p_loadN (by rfl) rfl (by first | (apply Has.own; (repeat' (first | exact Take.here | apply Take.there)); done) | exact Has.ro (by assumption)) (by first | rfl | assumption)) rfl ?_
  first | refine m_yes rfl rfl rfl (p_loadO (by rfl) rfl (by first | (apply Has.own; (repeat' (first | exact Take.here | apply Take.there)); done) | exact Has.ro (by assumption)) (by rfl)) rfl ?_ | refine m_yes rfl rfl rfl (p_loadN (by rfl) rfl (by first | (apply Has.own; (repeat' (first | exact Take.here | apply Take.there)); done) | exact Has.ro (by assumption)) (by first | rfl | assumption)) rfl ?_
  refine m_call (Hin := []) (Hr := ?hr15) (R := ?rr15) rfl (wantedY rfl rfl) rfl rfl rfl ?hin15 ?hc15 ?hk15
  case hin15 => repeat' (first | exact Cover.nil | exact Take.here | apply Cover.cons | apply Take.there)
  case hc15 => intro ρ' hρ hR; exact sp_q (meet_ok _ _ _ _)
  rintro _ _ ⟨rfl, rfl⟩
  refine ⟨.some (by repeat' (first | exact Cover.nil | exact Take.here | apply Cover.cons | apply Take.there)), ?_⟩
  refine m_call (Hin := []) (Hr := ?hr16) (R := ?rr16) rfl (wantedY rfl rfl) rfl rfl rfl ?hin16 ?hc16 ?hk16
  case hin16 => repeat' (first | exact Cover.nil | exact Take.here | apply Cover.cons | apply Take.there)
  case hc16 => intro ρ' hρ hR; exact sp_q (dmeet_ok _ _ _ _)
  rintro _ _ ⟨rfl, rfl⟩
  refine ⟨.none (by kernel_rfl), ?_⟩
  refine m_yes0 rfl rfl rfl (fun _ _ => p_eqagg (eqSpanT 9998 _ _) (by kernel_rfl) rfl rfl) rfl ?_
  first | refine m_float0 rfl (fun _ _ => p_pickt rfl rfl) rfl ?_ | refine m_float0 rfl (fun _ _ => p_pickf rfl rfl) rfl ?_
  refine m_float0 rfl (fun _ _ => p_move rfl) rfl ?_
  refine m_call (Hin := []) (Hr := ?hr17) (R := ?rr17) rfl (wantedY rfl rfl) rfl rfl rfl ?hin17 ?hc17 ?hk17
  case hin17 => repeat' (first | exact Cover.nil | exact Take.here | apply Cover.cons | apply Take.there)
  case hc17 => intro ρ' hρ hR; exact awake_ok
  rintro _ _ ⟨rfl, rfl⟩
  refine ⟨.none (by kernel_rfl), ?_⟩
  first | refine m_float0 rfl (fun _ _ => p_pickt rfl rfl) rfl ?_ | refine m_float0 rfl (fun _ _ => p_pickf rfl rfl) rfl ?_
  refine m_float0 rfl (fun _ _ => p_assign rfl) rfl ?_
  refine m_nil ?_
  refine g_qt ?_
  refine g_ret ?_
  exact g_post (Ho := []) (rs := [.tmp 8]) rfl (.tmp rfl .nil) rfl .nil
set_option maxHeartbeats 1600000 in
theorem sorders_ok {ρ : Nat → Obj → Prop} (x1 x2 y1 y2 z : Int) :
    Con Try.prog ρ 7 #[.agg #[.int .i64 x1, .int .i64 x2], .agg #[.int .i64 y1, .int .i64 y2], .int .i64 z] [] (fun v _ => v = .bool true) := by
  obtain ⟨k1, k2, k3, k4⟩ := join_in (a1 := x1) (a2 := x2) (b1 := y1) (b2 := y2)
  obtain ⟨l1, l2, l3⟩ := meet_in (a1 := x1) (a2 := x2) (b1 := y1) (b2 := y2)
  have k3 := k3 z
  have l3 := l3 z
  refine con_intro Try.func7 Try.call7 rfl Try.ntmps7 rfl (L := [(0, _), (1, _), (2, _)]) rfl fun w hh => ?_
  refine g_seq ?_
  refine g_region ?_
  refine g_eff (e_box rfl (by rfl)) rfl (fun _ _ => ?_)
  rintro ⟨b3, rfl, rfl⟩
  refine g_eff (e_box rfl (by rfl)) rfl (fun _ _ => ?_)
  rintro ⟨b4, rfl, rfl⟩
  refine g_pure (p_assign rfl) rfl ?_
  refine g_nil ?_
  refine g_qt ?_
  refine g_seq ?_
  generalize hj : joinS (x1, x2) (y1, y2) = j at k1 k2 k3 k4
  generalize hm : meetS (x1, x2) (y1, y2) = m at l1 l2 l3
  obtain ⟨j1, j2⟩ := j
  obtain ⟨m1, m2⟩ := m
  dsimp only at k1 k2 k3 k4 l1 l2 l3
  refine g_join (fun y : Nat × Nat => [(2, .int .i64 z), (3, .pointer (some ⟨b3, 0, none⟩)), (4, .pointer (some ⟨b4, 0, none⟩)), (7, .pointer (some ⟨y.1, 0, none⟩)), (8, .pointer (some ⟨y.2, 0, none⟩))])
    (fun y => [Blk y.2 (.cells [.int .i64 m1, .int .i64 m2].toArray 25 (0, 0)), Blk y.1 (.cells [.int .i64 j1, .int .i64 j2].toArray 25 (0, 0)), Blk b4 (.cells [.int .i64 y1, .int .i64 y2].toArray 25 (0, 0)), Blk b3 (.cells [.int .i64 x1, .int .i64 x2].toArray 25 (0, 0))]) (fun _ => True) ?_ ?_
  · refine m_begin0 (.fl 0 1 (.fl 1 1 (.fl 3 1 (.fl 4 1 (.or (.ef 2 (.or (.ef 5 (.or (.ef 6 (.ef 7 (.ef 8 (.ef 9 .done)))) (.ef 7 (.ef 6 (.ef 8 (.ef 9 .done)))))) (.or (.ef 6 (.or (.ef 5 (.ef 7 (.ef 8 (.ef 9 .done)))) (.ef 7 (.ef 5 (.ef 8 (.ef 9 .done)))))) (.ef 7 (.or (.ef 5 (.ef 6 (.ef 8 (.ef 9 .done)))) (.ef 6 (.ef 5 (.ef 8 (.ef 9 .done))))))))) (.or (.ef 6 (.or (.ef 2 (.or (.ef 5 (.ef 7 (.ef 8 (.ef 9 .done)))) (.ef 7 (.ef 5 (.ef 8 (.ef 9 .done)))))) (.ef 7 (.ef 2 (.ef 5 (.ef 8 (.ef 9 .done))))))) (.ef 7 (.or (.ef 2 (.or (.ef 5 (.ef 6 (.ef 8 (.ef 9 .done)))) (.ef 6 (.ef 5 (.ef 8 (.ef 9 .done)))))) (.ef 6 (.ef 2 (.ef 5 (.ef 8 (.ef 9 .done))))))))))))) (by kernel_rfl) (by kernel_rfl) ?_
    first | refine m_float rfl (p_loadO (by rfl) rfl (by first | (apply Has.own; (repeat' (first | exact Take.here | apply Take.there)); done) | exact Has.ro (by assumption)) (by rfl)) rfl ?_ | refine m_float rfl (p_loadN (by rfl) rfl (by first | (apply Has.own; (repeat' (first | exact Take.here | apply Take.there)); done) | exact Has.ro (by assumption)) (by first | rfl | assumption)) rfl ?_
    first | refine m_float rfl (p_loadO (by rfl) rfl (by first | (apply Has.own; (repeat' (first | exact Take.here | apply Take.there)); done) | exact Has.ro (by assumption)) (by rfl)) rfl ?_ | refine m_float rfl (p_loadN (by rfl) rfl (by first | (apply Has.own; (repeat' (first | exact Take.here | apply Take.there)); done) | exact Has.ro (by assumption)) (by first | rfl | assumption)) rfl ?_
    first | refine m_float rfl (p_loadO (by rfl) rfl (by first | (apply Has.own; (repeat' (first | exact Take.here | apply Take.there)); done) | exact Has.ro (by assumption)) (by rfl)) rfl ?_ | refine m_float rfl (p_loadN (by rfl) rfl (by first | (apply Has.own; (repeat' (first | exact Take.here | apply Take.there)); done) | exact Has.ro (by assumption)) (by first | rfl | assumption)) rfl ?_
    first | refine m_float rfl (p_loadO (by rfl) rfl (by first | (apply Has.own; (repeat' (first | exact Take.here | apply Take.there)); done) | exact Has.ro (by assumption)) (by rfl)) rfl ?_ | refine m_float rfl (p_loadN (by rfl) rfl (by first | (apply Has.own; (repeat' (first | exact Take.here | apply Take.there)); done) | exact Has.ro (by assumption)) (by first | rfl | assumption)) rfl ?_
    refine m_or ?_ ?_
    · refine m_call (Hin := []) (Hr := ?hr18) (R := ?rr18) rfl wantedN rfl rfl rfl ?hin18 ?hc18 ?hk18
      case hin18 => repeat' (first | exact Cover.nil | exact Take.here | apply Cover.cons | apply Take.there)
      case hc18 => intro ρ' hρ hR; exact sp_q (join_ok _ _ _ _)
      rintro _ _ ⟨rfl, rfl⟩
      refine ⟨.some (by repeat' (first | exact Cover.nil | exact Take.here | apply Cover.cons | apply Take.there)), ?_⟩
      refine m_or ?_ ?_
      · refine m_call (Hin := []) (Hr := ?hr19) (R := ?rr19) rfl wantedN rfl rfl rfl ?hin19 ?hc19 ?hk19
        case hin19 => repeat' (first | exact Cover.nil | exact Take.here | apply Cover.cons | apply Take.there)
        case hc19 => intro ρ' hρ hR; exact sp_q (meet_ok _ _ _ _)
        rintro _ _ ⟨rfl, rfl⟩
        refine ⟨.none (by kernel_rfl), ?_⟩
        refine m_or ?_ ?_
        · refine m_eff rfl (e_alloc (by rfl)) rfl (fun _ _ => ?_)
          rintro ⟨b7, rfl, rfl⟩
          refine ⟨.none (by kernel_rfl), ?_⟩
          refine m_eff rfl (e_alloc (by rfl)) rfl (fun _ _ => ?_)
          rintro ⟨b8, rfl, rfl⟩
          refine ⟨.none (by kernel_rfl), ?_⟩
          first | refine m_eff0 rfl (e_storeO rfl rfl (by rfl) (by rfl) (by rfl) (by repeat' (first | exact Take.here | apply Take.there)) (by rfl)) (fun _ _ => ?_) | refine m_eff0 rfl (e_storeN rfl rfl (by rfl) (by rfl) (by rfl) (by repeat' (first | exact Take.here | apply Take.there)) (by simp)) (fun _ _ => ?_)
          rintro rfl
          refine ⟨.none (by kernel_rfl), ?_⟩
          first | refine m_eff0 rfl (e_storeO rfl rfl (by rfl) (by rfl) (by rfl) (by repeat' (first | exact Take.here | apply Take.there)) (by rfl)) (fun _ _ => ?_) | refine m_eff0 rfl (e_storeN rfl rfl (by rfl) (by rfl) (by rfl) (by repeat' (first | exact Take.here | apply Take.there)) (by simp)) (fun _ _ => ?_)
          rintro rfl
          refine ⟨.none (by kernel_rfl), ?_⟩
          refine m_nil ?_
          refine g_qn ?_
          rw [hj, hm]
          exact g_joined (b7, b8) (by (repeat (first | exact trivial | refine ⟨by rfl, ?_⟩)); done) (by repeat' (first | exact Cover.nil | exact Take.here | apply Cover.cons | apply Take.there)) trivial
        refine m_eff rfl (e_alloc (by rfl)) rfl (fun _ _ => ?_)
        rintro ⟨b8, rfl, rfl⟩
        refine ⟨.none (by kernel_rfl), ?_⟩
        refine m_eff rfl (e_alloc (by rfl)) rfl (fun _ _ => ?_)
        rintro ⟨b7, rfl, rfl⟩
        refine ⟨.none (by kernel_rfl), ?_⟩
        first | refine m_eff0 rfl (e_storeO rfl rfl (by rfl) (by rfl) (by rfl) (by repeat' (first | exact Take.here | apply Take.there)) (by rfl)) (fun _ _ => ?_) | refine m_eff0 rfl (e_storeN rfl rfl (by rfl) (by rfl) (by rfl) (by repeat' (first | exact Take.here | apply Take.there)) (by simp)) (fun _ _ => ?_)
        rintro rfl
        refine ⟨.none (by kernel_rfl), ?_⟩
        first | refine m_eff0 rfl (e_storeO rfl rfl (by rfl) (by rfl) (by rfl) (by repeat' (first | exact Take.here | apply Take.there)) (by rfl)) (fun _ _ => ?_) | refine m_eff0 rfl (e_storeN rfl rfl (by rfl) (by rfl) (by rfl) (by repeat' (first | exact Take.here | apply Take.there)) (by simp)) (fun _ _ => ?_)
        rintro rfl
        refine ⟨.none (by kernel_rfl), ?_⟩
        refine m_nil ?_
        refine g_qn ?_
        rw [hj, hm]
        exact g_joined (b7, b8) (by (repeat (first | exact trivial | refine ⟨by rfl, ?_⟩)); done) (by repeat' (first | exact Cover.nil | exact Take.here | apply Cover.cons | apply Take.there)) trivial
      refine m_or ?_ ?_
      · refine m_eff rfl (e_alloc (by rfl)) rfl (fun _ _ => ?_)
        rintro ⟨b7, rfl, rfl⟩
        refine ⟨.some (by repeat' (first | exact Cover.nil | exact Take.here | apply Cover.cons | apply Take.there)), ?_⟩
        refine m_or ?_ ?_
        · refine m_call (Hin := []) (Hr := ?hr20) (R := ?rr20) rfl wantedN rfl rfl rfl ?hin20 ?hc20 ?hk20
          case hin20 => repeat' (first | exact Cover.nil | exact Take.here | apply Cover.cons | apply Take.there)
          case hc20 => intro ρ' hρ hR; exact sp_q (meet_ok _ _ _ _)
          rintro _ _ ⟨rfl, rfl⟩
          refine ⟨.none (by kernel_rfl), ?_⟩
          refine m_eff rfl (e_alloc (by rfl)) rfl (fun _ _ => ?_)
          rintro ⟨b8, rfl, rfl⟩
          refine ⟨.none (by kernel_rfl), ?_⟩
          first | refine m_eff0 rfl (e_storeO rfl rfl (by rfl) (by rfl) (by rfl) (by repeat' (first | exact Take.here | apply Take.there)) (by rfl)) (fun _ _ => ?_) | refine m_eff0 rfl (e_storeN rfl rfl (by rfl) (by rfl) (by rfl) (by repeat' (first | exact Take.here | apply Take.there)) (by simp)) (fun _ _ => ?_)
          rintro rfl
          refine ⟨.none (by kernel_rfl), ?_⟩
          first | refine m_eff0 rfl (e_storeO rfl rfl (by rfl) (by rfl) (by rfl) (by repeat' (first | exact Take.here | apply Take.there)) (by rfl)) (fun _ _ => ?_) | refine m_eff0 rfl (e_storeN rfl rfl (by rfl) (by rfl) (by rfl) (by repeat' (first | exact Take.here | apply Take.there)) (by simp)) (fun _ _ => ?_)
          rintro rfl
          refine ⟨.none (by kernel_rfl), ?_⟩
          refine m_nil ?_
          refine g_qn ?_
          rw [hj, hm]
          exact g_joined (b7, b8) (by (repeat (first | exact trivial | refine ⟨by rfl, ?_⟩)); done) (by repeat' (first | exact Cover.nil | exact Take.here | apply Cover.cons | apply Take.there)) trivial
        refine m_eff rfl (e_alloc (by rfl)) rfl (fun _ _ => ?_)
        rintro ⟨b8, rfl, rfl⟩
        refine ⟨.some (by repeat' (first | exact Cover.nil | exact Take.here | apply Cover.cons | apply Take.there)), ?_⟩
        refine m_call (Hin := []) (Hr := ?hr21) (R := ?rr21) rfl wantedN rfl rfl rfl ?hin21 ?hc21 ?hk21
        case hin21 => repeat' (first | exact Cover.nil | exact Take.here | apply Cover.cons | apply Take.there)
        case hc21 => intro ρ' hρ hR; exact sp_q (meet_ok _ _ _ _)
        rintro _ _ ⟨rfl, rfl⟩
        refine ⟨.none (by kernel_rfl), ?_⟩
        first | refine m_eff0 rfl (e_storeO rfl rfl (by rfl) (by rfl) (by rfl) (by repeat' (first | exact Take.here | apply Take.there)) (by rfl)) (fun _ _ => ?_) | refine m_eff0 rfl (e_storeN rfl rfl (by rfl) (by rfl) (by rfl) (by repeat' (first | exact Take.here | apply Take.there)) (by simp)) (fun _ _ => ?_)
        rintro rfl
        refine ⟨.none (by kernel_rfl), ?_⟩
        first | refine m_eff0 rfl (e_storeO rfl rfl (by rfl) (by rfl) (by rfl) (by repeat' (first | exact Take.here | apply Take.there)) (by rfl)) (fun _ _ => ?_) | refine m_eff0 rfl (e_storeN rfl rfl (by rfl) (by rfl) (by rfl) (by repeat' (first | exact Take.here | apply Take.there)) (by simp)) (fun _ _ => ?_)
        rintro rfl
        refine ⟨.none (by kernel_rfl), ?_⟩
        refine m_nil ?_
        refine g_qn ?_
        rw [hj, hm]
        exact g_joined (b7, b8) (by (repeat (first | exact trivial | refine ⟨by rfl, ?_⟩)); done) (by repeat' (first | exact Cover.nil | exact Take.here | apply Cover.cons | apply Take.there)) trivial
      refine m_eff rfl (e_alloc (by rfl)) rfl (fun _ _ => ?_)
      rintro ⟨b8, rfl, rfl⟩
      refine ⟨.some (by repeat' (first | exact Cover.nil | exact Take.here | apply Cover.cons | apply Take.there)), ?_⟩
      refine m_or ?_ ?_
      · refine m_call (Hin := []) (Hr := ?hr22) (R := ?rr22) rfl wantedN rfl rfl rfl ?hin22 ?hc22 ?hk22
        case hin22 => repeat' (first | exact Cover.nil | exact Take.here | apply Cover.cons | apply Take.there)
        case hc22 => intro ρ' hρ hR; exact sp_q (meet_ok _ _ _ _)
        rintro _ _ ⟨rfl, rfl⟩
        refine ⟨.none (by kernel_rfl), ?_⟩
        refine m_eff rfl (e_alloc (by rfl)) rfl (fun _ _ => ?_)
        rintro ⟨b7, rfl, rfl⟩
        refine ⟨.none (by kernel_rfl), ?_⟩
        first | refine m_eff0 rfl (e_storeO rfl rfl (by rfl) (by rfl) (by rfl) (by repeat' (first | exact Take.here | apply Take.there)) (by rfl)) (fun _ _ => ?_) | refine m_eff0 rfl (e_storeN rfl rfl (by rfl) (by rfl) (by rfl) (by repeat' (first | exact Take.here | apply Take.there)) (by simp)) (fun _ _ => ?_)
        rintro rfl
        refine ⟨.none (by kernel_rfl), ?_⟩
        first | refine m_eff0 rfl (e_storeO rfl rfl (by rfl) (by rfl) (by rfl) (by repeat' (first | exact Take.here | apply Take.there)) (by rfl)) (fun _ _ => ?_) | refine m_eff0 rfl (e_storeN rfl rfl (by rfl) (by rfl) (by rfl) (by repeat' (first | exact Take.here | apply Take.there)) (by simp)) (fun _ _ => ?_)
        rintro rfl
        refine ⟨.none (by kernel_rfl), ?_⟩
        refine m_nil ?_
        refine g_qn ?_
        rw [hj, hm]
        exact g_joined (b7, b8) (by (repeat (first | exact trivial | refine ⟨by rfl, ?_⟩)); done) (by repeat' (first | exact Cover.nil | exact Take.here | apply Cover.cons | apply Take.there)) trivial
      refine m_eff rfl (e_alloc (by rfl)) rfl (fun _ _ => ?_)
      rintro ⟨b7, rfl, rfl⟩
      refine ⟨.some (by repeat' (first | exact Cover.nil | exact Take.here | apply Cover.cons | apply Take.there)), ?_⟩
      refine m_call (Hin := []) (Hr := ?hr23) (R := ?rr23) rfl wantedN rfl rfl rfl ?hin23 ?hc23 ?hk23
      case hin23 => repeat' (first | exact Cover.nil | exact Take.here | apply Cover.cons | apply Take.there)
      case hc23 => intro ρ' hρ hR; exact sp_q (meet_ok _ _ _ _)
      rintro _ _ ⟨rfl, rfl⟩
      refine ⟨.none (by kernel_rfl), ?_⟩
      first | refine m_eff0 rfl (e_storeO rfl rfl (by rfl) (by rfl) (by rfl) (by repeat' (first | exact Take.here | apply Take.there)) (by rfl)) (fun _ _ => ?_) | refine m_eff0 rfl (e_storeN rfl rfl (by rfl) (by rfl) (by rfl) (by repeat' (first | exact Take.here | apply Take.there)) (by simp)) (fun _ _ => ?_)
      rintro rfl
      refine ⟨.none (by kernel_rfl), ?_⟩
      first | refine m_eff0 rfl (e_storeO rfl rfl (by rfl) (by rfl) (by rfl) (by repeat' (first | exact Take.here | apply Take.there)) (by rfl)) (fun _ _ => ?_) | refine m_eff0 rfl (e_storeN rfl rfl (by rfl) (by rfl) (by rfl) (by repeat' (first | exact Take.here | apply Take.there)) (by simp)) (fun _ _ => ?_)
      rintro rfl
      refine ⟨.none (by kernel_rfl), ?_⟩
      refine m_nil ?_
      refine g_qn ?_
      rw [hj, hm]
      exact g_joined (b7, b8) (by (repeat (first | exact trivial | refine ⟨by rfl, ?_⟩)); done) (by repeat' (first | exact Cover.nil | exact Take.here | apply Cover.cons | apply Take.there)) trivial
    refine m_or ?_ ?_
    · refine m_eff rfl (e_alloc (by rfl)) rfl (fun _ _ => ?_)
      rintro ⟨b7, rfl, rfl⟩
      refine ⟨.some (by repeat' (first | exact Cover.nil | exact Take.here | apply Cover.cons | apply Take.there)), ?_⟩
      refine m_or ?_ ?_
      · refine m_call (Hin := []) (Hr := ?hr24) (R := ?rr24) rfl wantedN rfl rfl rfl ?hin24 ?hc24 ?hk24
        case hin24 => repeat' (first | exact Cover.nil | exact Take.here | apply Cover.cons | apply Take.there)
        case hc24 => intro ρ' hρ hR; exact sp_q (join_ok _ _ _ _)
        rintro _ _ ⟨rfl, rfl⟩
        refine ⟨.some (by repeat' (first | exact Cover.nil | exact Take.here | apply Cover.cons | apply Take.there)), ?_⟩
        refine m_or ?_ ?_
        · refine m_call (Hin := []) (Hr := ?hr25) (R := ?rr25) rfl wantedN rfl rfl rfl ?hin25 ?hc25 ?hk25
          case hin25 => repeat' (first | exact Cover.nil | exact Take.here | apply Cover.cons | apply Take.there)
          case hc25 => intro ρ' hρ hR; exact sp_q (meet_ok _ _ _ _)
          rintro _ _ ⟨rfl, rfl⟩
          refine ⟨.none (by kernel_rfl), ?_⟩
          refine m_eff rfl (e_alloc (by rfl)) rfl (fun _ _ => ?_)
          rintro ⟨b8, rfl, rfl⟩
          refine ⟨.none (by kernel_rfl), ?_⟩
          first | refine m_eff0 rfl (e_storeO rfl rfl (by rfl) (by rfl) (by rfl) (by repeat' (first | exact Take.here | apply Take.there)) (by rfl)) (fun _ _ => ?_) | refine m_eff0 rfl (e_storeN rfl rfl (by rfl) (by rfl) (by rfl) (by repeat' (first | exact Take.here | apply Take.there)) (by simp)) (fun _ _ => ?_)
          rintro rfl
          refine ⟨.none (by kernel_rfl), ?_⟩
          first | refine m_eff0 rfl (e_storeO rfl rfl (by rfl) (by rfl) (by rfl) (by repeat' (first | exact Take.here | apply Take.there)) (by rfl)) (fun _ _ => ?_) | refine m_eff0 rfl (e_storeN rfl rfl (by rfl) (by rfl) (by rfl) (by repeat' (first | exact Take.here | apply Take.there)) (by simp)) (fun _ _ => ?_)
          rintro rfl
          refine ⟨.none (by kernel_rfl), ?_⟩
          refine m_nil ?_
          refine g_qn ?_
          rw [hj, hm]
          exact g_joined (b7, b8) (by (repeat (first | exact trivial | refine ⟨by rfl, ?_⟩)); done) (by repeat' (first | exact Cover.nil | exact Take.here | apply Cover.cons | apply Take.there)) trivial
        refine m_eff rfl (e_alloc (by rfl)) rfl (fun _ _ => ?_)
        rintro ⟨b8, rfl, rfl⟩
        refine ⟨.some (by repeat' (first | exact Cover.nil | exact Take.here | apply Cover.cons | apply Take.there)), ?_⟩
        refine m_call (Hin := []) (Hr := ?hr26) (R := ?rr26) rfl wantedN rfl rfl rfl ?hin26 ?hc26 ?hk26
        case hin26 => repeat' (first | exact Cover.nil | exact Take.here | apply Cover.cons | apply Take.there)
        case hc26 => intro ρ' hρ hR; exact sp_q (meet_ok _ _ _ _)
        rintro _ _ ⟨rfl, rfl⟩
        refine ⟨.none (by kernel_rfl), ?_⟩
        first | refine m_eff0 rfl (e_storeO rfl rfl (by rfl) (by rfl) (by rfl) (by repeat' (first | exact Take.here | apply Take.there)) (by rfl)) (fun _ _ => ?_) | refine m_eff0 rfl (e_storeN rfl rfl (by rfl) (by rfl) (by rfl) (by repeat' (first | exact Take.here | apply Take.there)) (by simp)) (fun _ _ => ?_)
        rintro rfl
        refine ⟨.none (by kernel_rfl), ?_⟩
        first | refine m_eff0 rfl (e_storeO rfl rfl (by rfl) (by rfl) (by rfl) (by repeat' (first | exact Take.here | apply Take.there)) (by rfl)) (fun _ _ => ?_) | refine m_eff0 rfl (e_storeN rfl rfl (by rfl) (by rfl) (by rfl) (by repeat' (first | exact Take.here | apply Take.there)) (by simp)) (fun _ _ => ?_)
        rintro rfl
        refine ⟨.none (by kernel_rfl), ?_⟩
        refine m_nil ?_
        refine g_qn ?_
        rw [hj, hm]
        exact g_joined (b7, b8) (by (repeat (first | exact trivial | refine ⟨by rfl, ?_⟩)); done) (by repeat' (first | exact Cover.nil | exact Take.here | apply Cover.cons | apply Take.there)) trivial
      refine m_eff rfl (e_alloc (by rfl)) rfl (fun _ _ => ?_)
      rintro ⟨b8, rfl, rfl⟩
      refine ⟨.some (by repeat' (first | exact Cover.nil | exact Take.here | apply Cover.cons | apply Take.there)), ?_⟩
      refine m_call (Hin := []) (Hr := ?hr27) (R := ?rr27) rfl wantedN rfl rfl rfl ?hin27 ?hc27 ?hk27
      case hin27 => repeat' (first | exact Cover.nil | exact Take.here | apply Cover.cons | apply Take.there)
      case hc27 => intro ρ' hρ hR; exact sp_q (join_ok _ _ _ _)
      rintro _ _ ⟨rfl, rfl⟩
      refine ⟨.some (by repeat' (first | exact Cover.nil | exact Take.here | apply Cover.cons | apply Take.there)), ?_⟩
      refine m_call (Hin := []) (Hr := ?hr28) (R := ?rr28) rfl wantedN rfl rfl rfl ?hin28 ?hc28 ?hk28
      case hin28 => repeat' (first | exact Cover.nil | exact Take.here | apply Cover.cons | apply Take.there)
      case hc28 => intro ρ' hρ hR; exact sp_q (meet_ok _ _ _ _)
      rintro _ _ ⟨rfl, rfl⟩
      refine ⟨.none (by kernel_rfl), ?_⟩
      first | refine m_eff0 rfl (e_storeO rfl rfl (by rfl) (by rfl) (by rfl) (by repeat' (first | exact Take.here | apply Take.there)) (by rfl)) (fun _ _ => ?_) | refine m_eff0 rfl (e_storeN rfl rfl (by rfl) (by rfl) (by rfl) (by repeat' (first | exact Take.here | apply Take.there)) (by simp)) (fun _ _ => ?_)
      rintro rfl
      refine ⟨.none (by kernel_rfl), ?_⟩
      first | refine m_eff0 rfl (e_storeO rfl rfl (by rfl) (by rfl) (by rfl) (by repeat' (first | exact Take.here | apply Take.there)) (by rfl)) (fun _ _ => ?_) | refine m_eff0 rfl (e_storeN rfl rfl (by rfl) (by rfl) (by rfl) (by repeat' (first | exact Take.here | apply Take.there)) (by simp)) (fun _ _ => ?_)
      rintro rfl
      refine ⟨.none (by kernel_rfl), ?_⟩
      refine m_nil ?_
      refine g_qn ?_
      rw [hj, hm]
      exact g_joined (b7, b8) (by (repeat (first | exact trivial | refine ⟨by rfl, ?_⟩)); done) (by repeat' (first | exact Cover.nil | exact Take.here | apply Cover.cons | apply Take.there)) trivial
    refine m_eff rfl (e_alloc (by rfl)) rfl (fun _ _ => ?_)
    rintro ⟨b8, rfl, rfl⟩
    refine ⟨.some (by repeat' (first | exact Cover.nil | exact Take.here | apply Cover.cons | apply Take.there)), ?_⟩
    refine m_or ?_ ?_
    · refine m_call (Hin := []) (Hr := ?hr29) (R := ?rr29) rfl wantedN rfl rfl rfl ?hin29 ?hc29 ?hk29
      case hin29 => repeat' (first | exact Cover.nil | exact Take.here | apply Cover.cons | apply Take.there)
      case hc29 => intro ρ' hρ hR; exact sp_q (join_ok _ _ _ _)
      rintro _ _ ⟨rfl, rfl⟩
      refine ⟨.some (by repeat' (first | exact Cover.nil | exact Take.here | apply Cover.cons | apply Take.there)), ?_⟩
      refine m_or ?_ ?_
      · refine m_call (Hin := []) (Hr := ?hr30) (R := ?rr30) rfl wantedN rfl rfl rfl ?hin30 ?hc30 ?hk30
        case hin30 => repeat' (first | exact Cover.nil | exact Take.here | apply Cover.cons | apply Take.there)
        case hc30 => intro ρ' hρ hR; exact sp_q (meet_ok _ _ _ _)
        rintro _ _ ⟨rfl, rfl⟩
        refine ⟨.none (by kernel_rfl), ?_⟩
        refine m_eff rfl (e_alloc (by rfl)) rfl (fun _ _ => ?_)
        rintro ⟨b7, rfl, rfl⟩
        refine ⟨.none (by kernel_rfl), ?_⟩
        first | refine m_eff0 rfl (e_storeO rfl rfl (by rfl) (by rfl) (by rfl) (by repeat' (first | exact Take.here | apply Take.there)) (by rfl)) (fun _ _ => ?_) | refine m_eff0 rfl (e_storeN rfl rfl (by rfl) (by rfl) (by rfl) (by repeat' (first | exact Take.here | apply Take.there)) (by simp)) (fun _ _ => ?_)
        rintro rfl
        refine ⟨.none (by kernel_rfl), ?_⟩
        first | refine m_eff0 rfl (e_storeO rfl rfl (by rfl) (by rfl) (by rfl) (by repeat' (first | exact Take.here | apply Take.there)) (by rfl)) (fun _ _ => ?_) | refine m_eff0 rfl (e_storeN rfl rfl (by rfl) (by rfl) (by rfl) (by repeat' (first | exact Take.here | apply Take.there)) (by simp)) (fun _ _ => ?_)
        rintro rfl
        refine ⟨.none (by kernel_rfl), ?_⟩
        refine m_nil ?_
        refine g_qn ?_
        rw [hj, hm]
        exact g_joined (b7, b8) (by (repeat (first | exact trivial | refine ⟨by rfl, ?_⟩)); done) (by repeat' (first | exact Cover.nil | exact Take.here | apply Cover.cons | apply Take.there)) trivial
      refine m_eff rfl (e_alloc (by rfl)) rfl (fun _ _ => ?_)
      rintro ⟨b7, rfl, rfl⟩
      refine ⟨.some (by repeat' (first | exact Cover.nil | exact Take.here | apply Cover.cons | apply Take.there)), ?_⟩
      refine m_call (Hin := []) (Hr := ?hr31) (R := ?rr31) rfl wantedN rfl rfl rfl ?hin31 ?hc31 ?hk31
      case hin31 => repeat' (first | exact Cover.nil | exact Take.here | apply Cover.cons | apply Take.there)
      case hc31 => intro ρ' hρ hR; exact sp_q (meet_ok _ _ _ _)
      rintro _ _ ⟨rfl, rfl⟩
      refine ⟨.none (by kernel_rfl), ?_⟩
      first | refine m_eff0 rfl (e_storeO rfl rfl (by rfl) (by rfl) (by rfl) (by repeat' (first | exact Take.here | apply Take.there)) (by rfl)) (fun _ _ => ?_) | refine m_eff0 rfl (e_storeN rfl rfl (by rfl) (by rfl) (by rfl) (by repeat' (first | exact Take.here | apply Take.there)) (by simp)) (fun _ _ => ?_)
      rintro rfl
      refine ⟨.none (by kernel_rfl), ?_⟩
      first | refine m_eff0 rfl (e_storeO rfl rfl (by rfl) (by rfl) (by rfl) (by repeat' (first | exact Take.here | apply Take.there)) (by rfl)) (fun _ _ => ?_) | refine m_eff0 rfl (e_storeN rfl rfl (by rfl) (by rfl) (by rfl) (by repeat' (first | exact Take.here | apply Take.there)) (by simp)) (fun _ _ => ?_)
      rintro rfl
      refine ⟨.none (by kernel_rfl), ?_⟩
      refine m_nil ?_
      refine g_qn ?_
      rw [hj, hm]
      exact g_joined (b7, b8) (by (repeat (first | exact trivial | refine ⟨by rfl, ?_⟩)); done) (by repeat' (first | exact Cover.nil | exact Take.here | apply Cover.cons | apply Take.there)) trivial
    refine m_eff rfl (e_alloc (by rfl)) rfl (fun _ _ => ?_)
    rintro ⟨b7, rfl, rfl⟩
    refine ⟨.some (by repeat' (first | exact Cover.nil | exact Take.here | apply Cover.cons | apply Take.there)), ?_⟩
    refine m_call (Hin := []) (Hr := ?hr32) (R := ?rr32) rfl wantedN rfl rfl rfl ?hin32 ?hc32 ?hk32
    case hin32 => repeat' (first | exact Cover.nil | exact Take.here | apply Cover.cons | apply Take.there)
    case hc32 => intro ρ' hρ hR; exact sp_q (join_ok _ _ _ _)
    rintro _ _ ⟨rfl, rfl⟩
    refine ⟨.some (by repeat' (first | exact Cover.nil | exact Take.here | apply Cover.cons | apply Take.there)), ?_⟩
    refine m_call (Hin := []) (Hr := ?hr33) (R := ?rr33) rfl wantedN rfl rfl rfl ?hin33 ?hc33 ?hk33
    case hin33 => repeat' (first | exact Cover.nil | exact Take.here | apply Cover.cons | apply Take.there)
    case hc33 => intro ρ' hρ hR; exact sp_q (meet_ok _ _ _ _)
    rintro _ _ ⟨rfl, rfl⟩
    refine ⟨.none (by kernel_rfl), ?_⟩
    first | refine m_eff0 rfl (e_storeO rfl rfl (by rfl) (by rfl) (by rfl) (by repeat' (first | exact Take.here | apply Take.there)) (by rfl)) (fun _ _ => ?_) | refine m_eff0 rfl (e_storeN rfl rfl (by rfl) (by rfl) (by rfl) (by repeat' (first | exact Take.here | apply Take.there)) (by simp)) (fun _ _ => ?_)
    rintro rfl
    refine ⟨.none (by kernel_rfl), ?_⟩
    first | refine m_eff0 rfl (e_storeO rfl rfl (by rfl) (by rfl) (by rfl) (by repeat' (first | exact Take.here | apply Take.there)) (by rfl)) (fun _ _ => ?_) | refine m_eff0 rfl (e_storeN rfl rfl (by rfl) (by rfl) (by rfl) (by repeat' (first | exact Take.here | apply Take.there)) (by simp)) (fun _ _ => ?_)
    rintro rfl
    refine ⟨.none (by kernel_rfl), ?_⟩
    refine m_nil ?_
    refine g_qn ?_
    rw [hj, hm]
    exact g_joined (b7, b8) (by (repeat (first | exact trivial | refine ⟨by rfl, ?_⟩)); done) (by repeat' (first | exact Cover.nil | exact Take.here | apply Cover.cons | apply Take.there)) trivial
  rintro ⟨b7, b8⟩ -
  dsimp only
  refine g_qt ?_
  refine g_seq ?_
  refine g_seq ?_
  refine g_region ?_
  first | refine g_pure (p_loadO (by rfl) rfl (by first | (apply Has.own; (repeat' (first | exact Take.here | apply Take.there)); done) | exact Has.ro (by assumption)) (by rfl)) rfl ?_ | refine g_pure (p_loadN (by rfl) rfl (by first | (apply Has.own; (repeat' (first | exact Take.here | apply Take.there)); done) | exact Has.ro (by assumption)) (by first | rfl | assumption)) rfl ?_
  first | refine g_pure (p_loadO (by rfl) rfl (by first | (apply Has.own; (repeat' (first | exact Take.here | apply Take.there)); done) | exact Has.ro (by assumption)) (by rfl)) rfl ?_ | refine g_pure (p_loadN (by rfl) rfl (by first | (apply Has.own; (repeat' (first | exact Take.here | apply Take.there)); done) | exact Has.ro (by assumption)) (by first | rfl | assumption)) rfl ?_
  refine g_call (Hin := []) (Hr := ?hr34) (R := ?rr34) rfl rfl rfl ?hin34 ?hc34 ?hk34
  case hin34 => repeat' (first | exact Cover.nil | exact Take.here | apply Cover.cons | apply Take.there)
  case hc34 => intro ρ' hρ hR; exact bool_t (within_ok _ _ _ _) k1
  rintro _ _ ⟨rfl, rfl⟩
  refine g_pure (p_not rfl) rfl ?_
  refine g_pure (p_move rfl) rfl ?_
  refine g_yes rfl rfl ?_
  first | refine g_pure (p_loadO (by rfl) rfl (by first | (apply Has.own; (repeat' (first | exact Take.here | apply Take.there)); done) | exact Has.ro (by assumption)) (by rfl)) rfl ?_ | refine g_pure (p_loadN (by rfl) rfl (by first | (apply Has.own; (repeat' (first | exact Take.here | apply Take.there)); done) | exact Has.ro (by assumption)) (by first | rfl | assumption)) rfl ?_
  refine g_yes rfl rfl ?_
  first | refine g_pure (p_loadO (by rfl) rfl (by first | (apply Has.own; (repeat' (first | exact Take.here | apply Take.there)); done) | exact Has.ro (by assumption)) (by rfl)) rfl ?_ | refine g_pure (p_loadN (by rfl) rfl (by first | (apply Has.own; (repeat' (first | exact Take.here | apply Take.there)); done) | exact Has.ro (by assumption)) (by first | rfl | assumption)) rfl ?_
  refine g_yes rfl rfl ?_
  refine g_call (Hin := []) (Hr := ?hr35) (R := ?rr35) rfl rfl rfl ?hin35 ?hc35 ?hk35
  case hin35 => repeat' (first | exact Cover.nil | exact Take.here | apply Cover.cons | apply Take.there)
  case hc35 => intro ρ' hρ hR; exact bool_t (within_ok _ _ _ _) k2
  rintro _ _ ⟨rfl, rfl⟩
  refine g_yes rfl rfl ?_
  refine g_pure (p_not rfl) rfl ?_
  first | refine g_pure (p_pickt rfl rfl) rfl ?_ | refine g_pure (p_pickf rfl rfl) rfl ?_
  refine g_pure (p_move rfl) rfl ?_
  refine g_yes rfl rfl ?_
  first | refine g_pure (p_loadO (by rfl) rfl (by first | (apply Has.own; (repeat' (first | exact Take.here | apply Take.there)); done) | exact Has.ro (by assumption)) (by rfl)) rfl ?_ | refine g_pure (p_loadN (by rfl) rfl (by first | (apply Has.own; (repeat' (first | exact Take.here | apply Take.there)); done) | exact Has.ro (by assumption)) (by first | rfl | assumption)) rfl ?_
  refine g_yes rfl rfl ?_
  first | refine g_pure (p_loadO (by rfl) rfl (by first | (apply Has.own; (repeat' (first | exact Take.here | apply Take.there)); done) | exact Has.ro (by assumption)) (by rfl)) rfl ?_ | refine g_pure (p_loadN (by rfl) rfl (by first | (apply Has.own; (repeat' (first | exact Take.here | apply Take.there)); done) | exact Has.ro (by assumption)) (by first | rfl | assumption)) rfl ?_
  refine g_yes rfl rfl ?_
  refine g_call (Hin := []) (Hr := ?hr36) (R := ?rr36) rfl rfl rfl ?hin36 ?hc36 ?hk36
  case hin36 => repeat' (first | exact Cover.nil | exact Take.here | apply Cover.cons | apply Take.there)
  case hc36 => intro ρ' hρ hR; exact bool_t (within_ok _ _ _ _) l1
  rintro _ _ ⟨rfl, rfl⟩
  refine g_yes rfl rfl ?_
  refine g_pure (p_not rfl) rfl ?_
  first | refine g_pure (p_pickt rfl rfl) rfl ?_ | refine g_pure (p_pickf rfl rfl) rfl ?_
  refine g_pure (p_move rfl) rfl ?_
  refine g_yes rfl rfl ?_
  first | refine g_pure (p_loadO (by rfl) rfl (by first | (apply Has.own; (repeat' (first | exact Take.here | apply Take.there)); done) | exact Has.ro (by assumption)) (by rfl)) rfl ?_ | refine g_pure (p_loadN (by rfl) rfl (by first | (apply Has.own; (repeat' (first | exact Take.here | apply Take.there)); done) | exact Has.ro (by assumption)) (by first | rfl | assumption)) rfl ?_
  refine g_yes rfl rfl ?_
  first | refine g_pure (p_loadO (by rfl) rfl (by first | (apply Has.own; (repeat' (first | exact Take.here | apply Take.there)); done) | exact Has.ro (by assumption)) (by rfl)) rfl ?_ | refine g_pure (p_loadN (by rfl) rfl (by first | (apply Has.own; (repeat' (first | exact Take.here | apply Take.there)); done) | exact Has.ro (by assumption)) (by first | rfl | assumption)) rfl ?_
  refine g_yes rfl rfl ?_
  refine g_call (Hin := []) (Hr := ?hr37) (R := ?rr37) rfl rfl rfl ?hin37 ?hc37 ?hk37
  case hin37 => repeat' (first | exact Cover.nil | exact Take.here | apply Cover.cons | apply Take.there)
  case hc37 => intro ρ' hρ hR; exact bool_t (within_ok _ _ _ _) l2
  rintro _ _ ⟨rfl, rfl⟩
  refine g_yes rfl rfl ?_
  refine g_pure (p_not rfl) rfl ?_
  first | refine g_pure (p_pickt rfl rfl) rfl ?_ | refine g_pure (p_pickf rfl rfl) rfl ?_
  refine g_nil ?_
  refine g_qt ?_
  refine g_iff rfl ?_
  refine g_skip ?_
  refine g_qt ?_
  refine g_seq ?_
  refine g_seq ?_
  refine m_begin0 (.fl 0 1 (.fl 1 0 (.fl 3 1 (.fl 4 0 (.ef 2 (.ef 5 (.fl 6 0 (.fl 7 1 (.fl 8 0 (.ef 9 (.fl 10 0 (.fl 11 0 (.fl 12 0 (.fl 13 1 (.fl 14 0 (.ef 15 (.fl 16 0 (.fl 17 1 (.fl 18 0 (.ef 19 (.fl 20 0 (.fl 21 0 (.fl 22 1 (.fl 23 0 (.ef 24 (.fl 25 0 (.fl 26 0 (.fl 27 0 .done)))))))))))))))))))))))))))) (by kernel_rfl) (by kernel_rfl) ?_
  first | refine m_float rfl (p_loadO (by rfl) rfl (by first | (apply Has.own; (repeat' (first | exact Take.here | apply Take.there)); done) | exact Has.ro (by assumption)) (by rfl)) rfl ?_ | refine m_float rfl (p_loadN (by rfl) rfl (by first | (apply Has.own; (repeat' (first | exact Take.here | apply Take.there)); done) | exact Has.ro (by assumption)) (by first | rfl | assumption)) rfl ?_
  refine m_float0 rfl (fun _ _ => p_move rfl) rfl ?_
  first | refine m_float rfl (p_loadO (by rfl) rfl (by first | (apply Has.own; (repeat' (first | exact Take.here | apply Take.there)); done) | exact Has.ro (by assumption)) (by rfl)) rfl ?_ | refine m_float rfl (p_loadN (by rfl) rfl (by first | (apply Has.own; (repeat' (first | exact Take.here | apply Take.there)); done) | exact Has.ro (by assumption)) (by first | rfl | assumption)) rfl ?_
  refine m_float0 rfl (fun _ _ => p_move rfl) rfl ?_
  refine m_call (Hin := []) (Hr := ?hr38) (R := ?rr38) rfl wantedN rfl rfl rfl ?hin38 ?hc38 ?hk38
  case hin38 => repeat' (first | exact Cover.nil | exact Take.here | apply Cover.cons | apply Take.there)
  case hc38 => intro ρ' hρ hR; exact has_ok _ _ _
  rintro _ _ ⟨rfl, rfl⟩
  refine ⟨.some (by repeat' (first | exact Cover.nil | exact Take.here | apply Cover.cons | apply Take.there)), ?_⟩
  refine m_call (Hin := []) (Hr := ?hr39) (R := ?rr39) rfl wantedN rfl rfl rfl ?hin39 ?hc39 ?hk39
  case hin39 => repeat' (first | exact Cover.nil | exact Take.here | apply Cover.cons | apply Take.there)
  case hc39 => intro ρ' hρ hR; exact has_ok _ _ _
  rintro _ _ ⟨rfl, rfl⟩
  refine ⟨.some (by repeat' (first | exact Cover.nil | exact Take.here | apply Cover.cons | apply Take.there)), ?_⟩
  refine m_float0 rfl (fun _ _ => p_move rfl) rfl ?_
  refine m_splitd 6 rfl rfl (fun h5 => ?_) (fun h5 => ?_)
  · first | refine m_yes rfl rfl rfl (p_loadO (by rfl) rfl (by first | (apply Has.own; (repeat' (first | exact Take.here | apply Take.there)); done) | exact Has.ro (by assumption)) (by rfl)) rfl ?_ | refine m_yes rfl rfl rfl (p_loadN (by rfl) rfl (by first | (apply Has.own; (repeat' (first | exact Take.here | apply Take.there)); done) | exact Has.ro (by assumption)) (by first | rfl | assumption)) rfl ?_
    refine m_yes0 rfl rfl rfl (fun _ _ => p_move rfl) rfl ?_
    refine m_call (Hin := []) (Hr := ?hr40) (R := ?rr40) rfl (wantedY rfl rfl) rfl rfl rfl ?hin40 ?hc40 ?hk40
    case hin40 => repeat' (first | exact Cover.nil | exact Take.here | apply Cover.cons | apply Take.there)
    case hc40 => intro ρ' hρ hR; exact has_ok _ _ _
    rintro _ _ ⟨rfl, rfl⟩
    refine ⟨.some (by repeat' (first | exact Cover.nil | exact Take.here | apply Cover.cons | apply Take.there)), ?_⟩
    first | refine m_float0 rfl (fun _ _ => p_pickt rfl rfl) rfl ?_ | refine m_float0 rfl (fun _ _ => p_pickf rfl rfl) rfl ?_
    refine m_float0 rfl (fun _ _ => p_neqbF (by rfl) rfl rfl (by first | exact decide_eq_decide.2 (l3.trans ⟨fun h => h.2, fun h => ⟨by assumption, h⟩⟩) | exact decide_eq_false (fun h => absurd (l3.1 h).1 (by assumption)))) rfl ?_
    refine m_float0 rfl (fun _ _ => p_move rfl) rfl ?_
    first | refine m_yes rfl rfl rfl (p_loadO (by rfl) rfl (by first | (apply Has.own; (repeat' (first | exact Take.here | apply Take.there)); done) | exact Has.ro (by assumption)) (by rfl)) rfl ?_ | refine m_yes rfl rfl rfl (p_loadN (by rfl) rfl (by first | (apply Has.own; (repeat' (first | exact Take.here | apply Take.there)); done) | exact Has.ro (by assumption)) (by first | rfl | assumption)) rfl ?_
    refine m_yes0 rfl rfl rfl (fun _ _ => p_move rfl) rfl ?_
    refine m_call (Hin := []) (Hr := ?hr41) (R := ?rr41) rfl (wantedY rfl rfl) rfl rfl rfl ?hin41 ?hc41 ?hk41
    case hin41 => repeat' (first | exact Cover.nil | exact Take.here | apply Cover.cons | apply Take.there)
    case hc41 => intro ρ' hρ hR; exact has_ok _ _ _
    rintro _ _ ⟨rfl, rfl⟩
    refine ⟨.some (by repeat' (first | exact Cover.nil | exact Take.here | apply Cover.cons | apply Take.there)), ?_⟩
    refine m_yes0 rfl rfl rfl (fun _ _ => p_move rfl) rfl ?_
    refine m_splitd 16 rfl rfl (fun h7 => ?_) (fun h7 => ?_)
    · refine m_no rfl rfl rfl rfl rfl ?_
      refine m_no0 rfl rfl rfl rfl rfl ?_
      refine m_noe rfl rfl rfl rfl rfl (.some (by repeat' (first | exact Cover.nil | exact Take.here | apply Cover.cons | apply Take.there))) ?_
      first | refine m_yes0 rfl rfl rfl (fun _ _ => p_pickt rfl rfl) rfl ?_ | refine m_yes0 rfl rfl rfl (fun _ _ => p_pickf rfl rfl) rfl ?_
      refine m_yes0 rfl rfl rfl (fun _ _ => p_move rfl) rfl ?_
      first | refine m_yes rfl rfl rfl (p_loadO (by rfl) rfl (by first | (apply Has.own; (repeat' (first | exact Take.here | apply Take.there)); done) | exact Has.ro (by assumption)) (by rfl)) rfl ?_ | refine m_yes rfl rfl rfl (p_loadN (by rfl) rfl (by first | (apply Has.own; (repeat' (first | exact Take.here | apply Take.there)); done) | exact Has.ro (by assumption)) (by first | rfl | assumption)) rfl ?_
      refine m_yes0 rfl rfl rfl (fun _ _ => p_move rfl) rfl ?_
      refine m_call (Hin := []) (Hr := ?hr42) (R := ?rr42) rfl (wantedY rfl rfl) rfl rfl rfl ?hin42 ?hc42 ?hk42
      case hin42 => repeat' (first | exact Cover.nil | exact Take.here | apply Cover.cons | apply Take.there)
      case hc42 => intro ρ' hρ hR; exact bool_t (has_ok _ _ _) (k3 (by first | exact .inl (by assumption) | exact .inr (by assumption)))
      rintro _ _ ⟨rfl, rfl⟩
      refine ⟨.none (by kernel_rfl), ?_⟩
      refine m_yes0 rfl rfl rfl (fun _ _ => p_not rfl) rfl ?_
      first | refine m_yes0 rfl rfl rfl (fun _ _ => p_pickt rfl rfl) rfl ?_ | refine m_yes0 rfl rfl rfl (fun _ _ => p_pickf rfl rfl) rfl ?_
      first | refine m_float0 rfl (fun _ _ => p_pickt rfl rfl) rfl ?_ | refine m_float0 rfl (fun _ _ => p_pickf rfl rfl) rfl ?_
      refine m_nil ?_
      refine g_qt ?_
      refine g_iff rfl ?_
      refine g_skip ?_
      refine g_qt ?_
      refine g_seq ?_
      refine g_region ?_
      first | refine g_pure (p_loadO (by rfl) rfl (by first | (apply Has.own; (repeat' (first | exact Take.here | apply Take.there)); done) | exact Has.ro (by assumption)) (by rfl)) rfl ?_ | refine g_pure (p_loadN (by rfl) rfl (by first | (apply Has.own; (repeat' (first | exact Take.here | apply Take.there)); done) | exact Has.ro (by assumption)) (by first | rfl | assumption)) rfl ?_
      first | refine g_pure (p_loadO (by rfl) rfl (by first | (apply Has.own; (repeat' (first | exact Take.here | apply Take.there)); done) | exact Has.ro (by assumption)) (by rfl)) rfl ?_ | refine g_pure (p_loadN (by rfl) rfl (by first | (apply Has.own; (repeat' (first | exact Take.here | apply Take.there)); done) | exact Has.ro (by assumption)) (by first | rfl | assumption)) rfl ?_
      refine g_call (Hin := []) (Hr := ?hr43) (R := ?rr43) rfl rfl rfl ?hin43 ?hc43 ?hk43
      case hin43 => repeat' (first | exact Cover.nil | exact Take.here | apply Cover.cons | apply Take.there)
      case hc43 => intro ρ' hρ hR; exact within_ok _ _ _ _
      rintro _ _ ⟨rfl, rfl⟩
      refine g_pure (p_not rfl) rfl ?_
      refine g_pure (p_move rfl) rfl ?_
      refine g_splitnd rfl rfl (fun h10 => ?_) (fun h10 => ?_)
      · refine g_no rfl rfl rfl rfl ?_
        refine g_no rfl rfl rfl rfl ?_
        refine g_no rfl rfl rfl rfl ?_
        first | refine g_pure (p_pickt rfl rfl) rfl ?_ | refine g_pure (p_pickf rfl rfl) rfl ?_
        refine g_pure (p_move rfl) rfl ?_
        refine g_no rfl rfl rfl rfl ?_
        refine g_no rfl rfl rfl rfl ?_
        first | refine g_pure (p_pickt rfl rfl) rfl ?_ | refine g_pure (p_pickf rfl rfl) rfl ?_
        refine g_pure (p_move rfl) rfl ?_
        refine g_yes rfl rfl ?_
        refine g_call (Hin := []) (Hr := ?hr44) (R := ?rr44) rfl rfl rfl ?hin44 ?hc44 ?hk44
        case hin44 => repeat' (first | exact Cover.nil | exact Take.here | apply Cover.cons | apply Take.there)
        case hc44 => intro ρ' hρ hR; exact awake_ok
        rintro _ _ ⟨rfl, rfl⟩
        first | refine g_pure (p_pickt rfl rfl) rfl ?_ | refine g_pure (p_pickf rfl rfl) rfl ?_
        refine g_pure (p_assign rfl) rfl ?_
        refine g_nil ?_
        refine g_qt ?_
        refine g_ret ?_
        first | exact g_post (Ho := []) (rs := [.tmp 6]) rfl (.tmp rfl .nil) rfl .nil | (exfalso; rcases k4 (by assumption) with h | h <;> contradiction)
      · refine g_yes rfl rfl ?_
        first | refine g_pure (p_loadO (by rfl) rfl (by first | (apply Has.own; (repeat' (first | exact Take.here | apply Take.there)); done) | exact Has.ro (by assumption)) (by rfl)) rfl ?_ | refine g_pure (p_loadN (by rfl) rfl (by first | (apply Has.own; (repeat' (first | exact Take.here | apply Take.there)); done) | exact Has.ro (by assumption)) (by first | rfl | assumption)) rfl ?_
        refine g_yes rfl rfl ?_
        first | refine g_pure (p_loadO (by rfl) rfl (by first | (apply Has.own; (repeat' (first | exact Take.here | apply Take.there)); done) | exact Has.ro (by assumption)) (by rfl)) rfl ?_ | refine g_pure (p_loadN (by rfl) rfl (by first | (apply Has.own; (repeat' (first | exact Take.here | apply Take.there)); done) | exact Has.ro (by assumption)) (by first | rfl | assumption)) rfl ?_
        refine g_yes rfl rfl ?_
        refine g_pure (p_eqagg (eqSpan 9998 _ _ _ _) (by kernel_rfl) rfl rfl) rfl ?_
        first | refine g_pure (p_pickt rfl rfl) rfl ?_ | refine g_pure (p_pickf rfl rfl) rfl ?_
        refine g_pure (p_move rfl) rfl ?_
        refine g_splitd rfl rfl (fun h13 => ?_) (fun h13 => ?_)
        · refine g_no rfl rfl rfl rfl ?_
          refine g_no rfl rfl rfl rfl ?_
          first | refine g_pure (p_pickt rfl rfl) rfl ?_ | refine g_pure (p_pickf rfl rfl) rfl ?_
          refine g_pure (p_move rfl) rfl ?_
          refine g_yes rfl rfl ?_
          refine g_call (Hin := []) (Hr := ?hr45) (R := ?rr45) rfl rfl rfl ?hin45 ?hc45 ?hk45
          case hin45 => repeat' (first | exact Cover.nil | exact Take.here | apply Cover.cons | apply Take.there)
          case hc45 => intro ρ' hρ hR; exact awake_ok
          rintro _ _ ⟨rfl, rfl⟩
          first | refine g_pure (p_pickt rfl rfl) rfl ?_ | refine g_pure (p_pickf rfl rfl) rfl ?_
          refine g_pure (p_assign rfl) rfl ?_
          refine g_nil ?_
          refine g_qt ?_
          refine g_ret ?_
          first | exact g_post (Ho := []) (rs := [.tmp 6]) rfl (.tmp rfl .nil) rfl .nil | (exfalso; rcases k4 (by assumption) with h | h <;> contradiction)
        · refine g_yes rfl rfl ?_
          first | refine g_pure (p_loadO (by rfl) rfl (by first | (apply Has.own; (repeat' (first | exact Take.here | apply Take.there)); done) | exact Has.ro (by assumption)) (by rfl)) rfl ?_ | refine g_pure (p_loadN (by rfl) rfl (by first | (apply Has.own; (repeat' (first | exact Take.here | apply Take.there)); done) | exact Has.ro (by assumption)) (by first | rfl | assumption)) rfl ?_
          refine g_yes rfl rfl ?_
          refine g_call (Hin := []) (Hr := ?hr46) (R := ?rr46) rfl rfl rfl ?hin46 ?hc46 ?hk46
          case hin46 => repeat' (first | exact Cover.nil | exact Take.here | apply Cover.cons | apply Take.there)
          case hc46 => intro ρ' hρ hR; exact empty_ok _ _
          rintro _ _ ⟨rfl, rfl⟩
          first | refine g_pure (p_pickt rfl rfl) rfl ?_ | refine g_pure (p_pickf rfl rfl) rfl ?_
          refine g_pure (p_move rfl) rfl ?_
          refine g_splitd rfl rfl (fun h15 => ?_) (fun h15 => ?_)
          · refine g_yes rfl rfl ?_
            refine g_call (Hin := []) (Hr := ?hr47) (R := ?rr47) rfl rfl rfl ?hin47 ?hc47 ?hk47
            case hin47 => repeat' (first | exact Cover.nil | exact Take.here | apply Cover.cons | apply Take.there)
            case hc47 => intro ρ' hρ hR; exact awake_ok
            rintro _ _ ⟨rfl, rfl⟩
            first | refine g_pure (p_pickt rfl rfl) rfl ?_ | refine g_pure (p_pickf rfl rfl) rfl ?_
            refine g_pure (p_assign rfl) rfl ?_
            refine g_nil ?_
            refine g_qt ?_
            refine g_ret ?_
            first | exact g_post (Ho := []) (rs := [.tmp 6]) rfl (.tmp rfl .nil) rfl .nil | (exfalso; rcases k4 (by assumption) with h | h <;> contradiction)
          · refine g_no rfl rfl rfl rfl ?_
            first | refine g_pure (p_pickt rfl rfl) rfl ?_ | refine g_pure (p_pickf rfl rfl) rfl ?_
            refine g_pure (p_assign rfl) rfl ?_
            refine g_nil ?_
            refine g_qt ?_
            refine g_ret ?_
            first | exact g_post (Ho := []) (rs := [.tmp 6]) rfl (.tmp rfl .nil) rfl .nil | (exfalso; rcases k4 (by assumption) with h | h <;> contradiction)
    · first | refine m_yes rfl rfl rfl (p_loadO (by rfl) rfl (by first | (apply Has.own; (repeat' (first | exact Take.here | apply Take.there)); done) | exact Has.ro (by assumption)) (by rfl)) rfl ?_ | refine m_yes rfl rfl rfl (p_loadN (by rfl) rfl (by first | (apply Has.own; (repeat' (first | exact Take.here | apply Take.there)); done) | exact Has.ro (by assumption)) (by first | rfl | assumption)) rfl ?_
      refine m_yes0 rfl rfl rfl (fun _ _ => p_move rfl) rfl ?_
      refine m_call (Hin := []) (Hr := ?hr48) (R := ?rr48) rfl (wantedY rfl rfl) rfl rfl rfl ?hin48 ?hc48 ?hk48
      case hin48 => repeat' (first | exact Cover.nil | exact Take.here | apply Cover.cons | apply Take.there)
      case hc48 => intro ρ' hρ hR; exact has_ok _ _ _
      rintro _ _ ⟨rfl, rfl⟩
      refine ⟨.some (by repeat' (first | exact Cover.nil | exact Take.here | apply Cover.cons | apply Take.there)), ?_⟩
      first | refine m_yes0 rfl rfl rfl (fun _ _ => p_pickt rfl rfl) rfl ?_ | refine m_yes0 rfl rfl rfl (fun _ _ => p_pickf rfl rfl) rfl ?_
      refine m_yes0 rfl rfl rfl (fun _ _ => p_move rfl) rfl ?_
      refine m_splitd 21 rfl rfl (fun h16 => ?_) (fun h16 => ?_)
      · first | refine m_yes rfl rfl rfl (p_loadO (by rfl) rfl (by first | (apply Has.own; (repeat' (first | exact Take.here | apply Take.there)); done) | exact Has.ro (by assumption)) (by rfl)) rfl ?_ | refine m_yes rfl rfl rfl (p_loadN (by rfl) rfl (by first | (apply Has.own; (repeat' (first | exact Take.here | apply Take.there)); done) | exact Has.ro (by assumption)) (by first | rfl | assumption)) rfl ?_
        refine m_yes0 rfl rfl rfl (fun _ _ => p_move rfl) rfl ?_
        refine m_call (Hin := []) (Hr := ?hr49) (R := ?rr49) rfl (wantedY rfl rfl) rfl rfl rfl ?hin49 ?hc49 ?hk49
        case hin49 => repeat' (first | exact Cover.nil | exact Take.here | apply Cover.cons | apply Take.there)
        case hc49 => intro ρ' hρ hR; exact bool_t (has_ok _ _ _) (k3 (by first | exact .inl (by assumption) | exact .inr (by assumption)))
        rintro _ _ ⟨rfl, rfl⟩
        refine ⟨.none (by kernel_rfl), ?_⟩
        refine m_yes0 rfl rfl rfl (fun _ _ => p_not rfl) rfl ?_
        first | refine m_yes0 rfl rfl rfl (fun _ _ => p_pickt rfl rfl) rfl ?_ | refine m_yes0 rfl rfl rfl (fun _ _ => p_pickf rfl rfl) rfl ?_
        first | refine m_float0 rfl (fun _ _ => p_pickt rfl rfl) rfl ?_ | refine m_float0 rfl (fun _ _ => p_pickf rfl rfl) rfl ?_
        refine m_nil ?_
        refine g_qt ?_
        refine g_iff rfl ?_
        refine g_skip ?_
        refine g_qt ?_
        refine g_seq ?_
        refine g_region ?_
        first | refine g_pure (p_loadO (by rfl) rfl (by first | (apply Has.own; (repeat' (first | exact Take.here | apply Take.there)); done) | exact Has.ro (by assumption)) (by rfl)) rfl ?_ | refine g_pure (p_loadN (by rfl) rfl (by first | (apply Has.own; (repeat' (first | exact Take.here | apply Take.there)); done) | exact Has.ro (by assumption)) (by first | rfl | assumption)) rfl ?_
        first | refine g_pure (p_loadO (by rfl) rfl (by first | (apply Has.own; (repeat' (first | exact Take.here | apply Take.there)); done) | exact Has.ro (by assumption)) (by rfl)) rfl ?_ | refine g_pure (p_loadN (by rfl) rfl (by first | (apply Has.own; (repeat' (first | exact Take.here | apply Take.there)); done) | exact Has.ro (by assumption)) (by first | rfl | assumption)) rfl ?_
        refine g_call (Hin := []) (Hr := ?hr50) (R := ?rr50) rfl rfl rfl ?hin50 ?hc50 ?hk50
        case hin50 => repeat' (first | exact Cover.nil | exact Take.here | apply Cover.cons | apply Take.there)
        case hc50 => intro ρ' hρ hR; exact within_ok _ _ _ _
        rintro _ _ ⟨rfl, rfl⟩
        refine g_pure (p_not rfl) rfl ?_
        refine g_pure (p_move rfl) rfl ?_
        refine g_splitnd rfl rfl (fun h18 => ?_) (fun h18 => ?_)
        · refine g_no rfl rfl rfl rfl ?_
          refine g_no rfl rfl rfl rfl ?_
          refine g_no rfl rfl rfl rfl ?_
          first | refine g_pure (p_pickt rfl rfl) rfl ?_ | refine g_pure (p_pickf rfl rfl) rfl ?_
          refine g_pure (p_move rfl) rfl ?_
          refine g_no rfl rfl rfl rfl ?_
          refine g_no rfl rfl rfl rfl ?_
          first | refine g_pure (p_pickt rfl rfl) rfl ?_ | refine g_pure (p_pickf rfl rfl) rfl ?_
          refine g_pure (p_move rfl) rfl ?_
          refine g_yes rfl rfl ?_
          refine g_call (Hin := []) (Hr := ?hr51) (R := ?rr51) rfl rfl rfl ?hin51 ?hc51 ?hk51
          case hin51 => repeat' (first | exact Cover.nil | exact Take.here | apply Cover.cons | apply Take.there)
          case hc51 => intro ρ' hρ hR; exact awake_ok
          rintro _ _ ⟨rfl, rfl⟩
          first | refine g_pure (p_pickt rfl rfl) rfl ?_ | refine g_pure (p_pickf rfl rfl) rfl ?_
          refine g_pure (p_assign rfl) rfl ?_
          refine g_nil ?_
          refine g_qt ?_
          refine g_ret ?_
          first | exact g_post (Ho := []) (rs := [.tmp 6]) rfl (.tmp rfl .nil) rfl .nil | (exfalso; rcases k4 (by assumption) with h | h <;> contradiction)
        · refine g_yes rfl rfl ?_
          first | refine g_pure (p_loadO (by rfl) rfl (by first | (apply Has.own; (repeat' (first | exact Take.here | apply Take.there)); done) | exact Has.ro (by assumption)) (by rfl)) rfl ?_ | refine g_pure (p_loadN (by rfl) rfl (by first | (apply Has.own; (repeat' (first | exact Take.here | apply Take.there)); done) | exact Has.ro (by assumption)) (by first | rfl | assumption)) rfl ?_
          refine g_yes rfl rfl ?_
          first | refine g_pure (p_loadO (by rfl) rfl (by first | (apply Has.own; (repeat' (first | exact Take.here | apply Take.there)); done) | exact Has.ro (by assumption)) (by rfl)) rfl ?_ | refine g_pure (p_loadN (by rfl) rfl (by first | (apply Has.own; (repeat' (first | exact Take.here | apply Take.there)); done) | exact Has.ro (by assumption)) (by first | rfl | assumption)) rfl ?_
          refine g_yes rfl rfl ?_
          refine g_pure (p_eqagg (eqSpan 9998 _ _ _ _) (by kernel_rfl) rfl rfl) rfl ?_
          first | refine g_pure (p_pickt rfl rfl) rfl ?_ | refine g_pure (p_pickf rfl rfl) rfl ?_
          refine g_pure (p_move rfl) rfl ?_
          refine g_splitd rfl rfl (fun h21 => ?_) (fun h21 => ?_)
          · refine g_no rfl rfl rfl rfl ?_
            refine g_no rfl rfl rfl rfl ?_
            first | refine g_pure (p_pickt rfl rfl) rfl ?_ | refine g_pure (p_pickf rfl rfl) rfl ?_
            refine g_pure (p_move rfl) rfl ?_
            refine g_yes rfl rfl ?_
            refine g_call (Hin := []) (Hr := ?hr52) (R := ?rr52) rfl rfl rfl ?hin52 ?hc52 ?hk52
            case hin52 => repeat' (first | exact Cover.nil | exact Take.here | apply Cover.cons | apply Take.there)
            case hc52 => intro ρ' hρ hR; exact awake_ok
            rintro _ _ ⟨rfl, rfl⟩
            first | refine g_pure (p_pickt rfl rfl) rfl ?_ | refine g_pure (p_pickf rfl rfl) rfl ?_
            refine g_pure (p_assign rfl) rfl ?_
            refine g_nil ?_
            refine g_qt ?_
            refine g_ret ?_
            first | exact g_post (Ho := []) (rs := [.tmp 6]) rfl (.tmp rfl .nil) rfl .nil | (exfalso; rcases k4 (by assumption) with h | h <;> contradiction)
          · refine g_yes rfl rfl ?_
            first | refine g_pure (p_loadO (by rfl) rfl (by first | (apply Has.own; (repeat' (first | exact Take.here | apply Take.there)); done) | exact Has.ro (by assumption)) (by rfl)) rfl ?_ | refine g_pure (p_loadN (by rfl) rfl (by first | (apply Has.own; (repeat' (first | exact Take.here | apply Take.there)); done) | exact Has.ro (by assumption)) (by first | rfl | assumption)) rfl ?_
            refine g_yes rfl rfl ?_
            refine g_call (Hin := []) (Hr := ?hr53) (R := ?rr53) rfl rfl rfl ?hin53 ?hc53 ?hk53
            case hin53 => repeat' (first | exact Cover.nil | exact Take.here | apply Cover.cons | apply Take.there)
            case hc53 => intro ρ' hρ hR; exact empty_ok _ _
            rintro _ _ ⟨rfl, rfl⟩
            first | refine g_pure (p_pickt rfl rfl) rfl ?_ | refine g_pure (p_pickf rfl rfl) rfl ?_
            refine g_pure (p_move rfl) rfl ?_
            refine g_splitd rfl rfl (fun h23 => ?_) (fun h23 => ?_)
            · refine g_yes rfl rfl ?_
              refine g_call (Hin := []) (Hr := ?hr54) (R := ?rr54) rfl rfl rfl ?hin54 ?hc54 ?hk54
              case hin54 => repeat' (first | exact Cover.nil | exact Take.here | apply Cover.cons | apply Take.there)
              case hc54 => intro ρ' hρ hR; exact awake_ok
              rintro _ _ ⟨rfl, rfl⟩
              first | refine g_pure (p_pickt rfl rfl) rfl ?_ | refine g_pure (p_pickf rfl rfl) rfl ?_
              refine g_pure (p_assign rfl) rfl ?_
              refine g_nil ?_
              refine g_qt ?_
              refine g_ret ?_
              first | exact g_post (Ho := []) (rs := [.tmp 6]) rfl (.tmp rfl .nil) rfl .nil | (exfalso; rcases k4 (by assumption) with h | h <;> contradiction)
            · refine g_no rfl rfl rfl rfl ?_
              first | refine g_pure (p_pickt rfl rfl) rfl ?_ | refine g_pure (p_pickf rfl rfl) rfl ?_
              refine g_pure (p_assign rfl) rfl ?_
              refine g_nil ?_
              refine g_qt ?_
              refine g_ret ?_
              first | exact g_post (Ho := []) (rs := [.tmp 6]) rfl (.tmp rfl .nil) rfl .nil | (exfalso; rcases k4 (by assumption) with h | h <;> contradiction)
      · refine m_no rfl rfl rfl rfl rfl ?_
        refine m_no0 rfl rfl rfl rfl rfl ?_
        refine m_noe rfl rfl rfl rfl rfl (.none (by kernel_rfl)) ?_
        refine m_no0 rfl rfl rfl rfl rfl ?_
        first | refine m_yes0 rfl rfl rfl (fun _ _ => p_pickt rfl rfl) rfl ?_ | refine m_yes0 rfl rfl rfl (fun _ _ => p_pickf rfl rfl) rfl ?_
        first | refine m_float0 rfl (fun _ _ => p_pickt rfl rfl) rfl ?_ | refine m_float0 rfl (fun _ _ => p_pickf rfl rfl) rfl ?_
        refine m_nil ?_
        refine g_qt ?_
        refine g_iff rfl ?_
        refine g_skip ?_
        refine g_qt ?_
        refine g_seq ?_
        refine g_region ?_
        first | refine g_pure (p_loadO (by rfl) rfl (by first | (apply Has.own; (repeat' (first | exact Take.here | apply Take.there)); done) | exact Has.ro (by assumption)) (by rfl)) rfl ?_ | refine g_pure (p_loadN (by rfl) rfl (by first | (apply Has.own; (repeat' (first | exact Take.here | apply Take.there)); done) | exact Has.ro (by assumption)) (by first | rfl | assumption)) rfl ?_
        first | refine g_pure (p_loadO (by rfl) rfl (by first | (apply Has.own; (repeat' (first | exact Take.here | apply Take.there)); done) | exact Has.ro (by assumption)) (by rfl)) rfl ?_ | refine g_pure (p_loadN (by rfl) rfl (by first | (apply Has.own; (repeat' (first | exact Take.here | apply Take.there)); done) | exact Has.ro (by assumption)) (by first | rfl | assumption)) rfl ?_
        refine g_call (Hin := []) (Hr := ?hr55) (R := ?rr55) rfl rfl rfl ?hin55 ?hc55 ?hk55
        case hin55 => repeat' (first | exact Cover.nil | exact Take.here | apply Cover.cons | apply Take.there)
        case hc55 => intro ρ' hρ hR; exact within_ok _ _ _ _
        rintro _ _ ⟨rfl, rfl⟩
        refine g_pure (p_not rfl) rfl ?_
        refine g_pure (p_move rfl) rfl ?_
        refine g_splitnd rfl rfl (fun h25 => ?_) (fun h25 => ?_)
        · refine g_no rfl rfl rfl rfl ?_
          refine g_no rfl rfl rfl rfl ?_
          refine g_no rfl rfl rfl rfl ?_
          first | refine g_pure (p_pickt rfl rfl) rfl ?_ | refine g_pure (p_pickf rfl rfl) rfl ?_
          refine g_pure (p_move rfl) rfl ?_
          refine g_no rfl rfl rfl rfl ?_
          refine g_no rfl rfl rfl rfl ?_
          first | refine g_pure (p_pickt rfl rfl) rfl ?_ | refine g_pure (p_pickf rfl rfl) rfl ?_
          refine g_pure (p_move rfl) rfl ?_
          refine g_yes rfl rfl ?_
          refine g_call (Hin := []) (Hr := ?hr56) (R := ?rr56) rfl rfl rfl ?hin56 ?hc56 ?hk56
          case hin56 => repeat' (first | exact Cover.nil | exact Take.here | apply Cover.cons | apply Take.there)
          case hc56 => intro ρ' hρ hR; exact awake_ok
          rintro _ _ ⟨rfl, rfl⟩
          first | refine g_pure (p_pickt rfl rfl) rfl ?_ | refine g_pure (p_pickf rfl rfl) rfl ?_
          refine g_pure (p_assign rfl) rfl ?_
          refine g_nil ?_
          refine g_qt ?_
          refine g_ret ?_
          first | exact g_post (Ho := []) (rs := [.tmp 6]) rfl (.tmp rfl .nil) rfl .nil | (exfalso; rcases k4 (by assumption) with h | h <;> contradiction)
        · refine g_yes rfl rfl ?_
          first | refine g_pure (p_loadO (by rfl) rfl (by first | (apply Has.own; (repeat' (first | exact Take.here | apply Take.there)); done) | exact Has.ro (by assumption)) (by rfl)) rfl ?_ | refine g_pure (p_loadN (by rfl) rfl (by first | (apply Has.own; (repeat' (first | exact Take.here | apply Take.there)); done) | exact Has.ro (by assumption)) (by first | rfl | assumption)) rfl ?_
          refine g_yes rfl rfl ?_
          first | refine g_pure (p_loadO (by rfl) rfl (by first | (apply Has.own; (repeat' (first | exact Take.here | apply Take.there)); done) | exact Has.ro (by assumption)) (by rfl)) rfl ?_ | refine g_pure (p_loadN (by rfl) rfl (by first | (apply Has.own; (repeat' (first | exact Take.here | apply Take.there)); done) | exact Has.ro (by assumption)) (by first | rfl | assumption)) rfl ?_
          refine g_yes rfl rfl ?_
          refine g_pure (p_eqagg (eqSpan 9998 _ _ _ _) (by kernel_rfl) rfl rfl) rfl ?_
          first | refine g_pure (p_pickt rfl rfl) rfl ?_ | refine g_pure (p_pickf rfl rfl) rfl ?_
          refine g_pure (p_move rfl) rfl ?_
          refine g_splitd rfl rfl (fun h28 => ?_) (fun h28 => ?_)
          · refine g_no rfl rfl rfl rfl ?_
            refine g_no rfl rfl rfl rfl ?_
            first | refine g_pure (p_pickt rfl rfl) rfl ?_ | refine g_pure (p_pickf rfl rfl) rfl ?_
            refine g_pure (p_move rfl) rfl ?_
            refine g_yes rfl rfl ?_
            refine g_call (Hin := []) (Hr := ?hr57) (R := ?rr57) rfl rfl rfl ?hin57 ?hc57 ?hk57
            case hin57 => repeat' (first | exact Cover.nil | exact Take.here | apply Cover.cons | apply Take.there)
            case hc57 => intro ρ' hρ hR; exact awake_ok
            rintro _ _ ⟨rfl, rfl⟩
            first | refine g_pure (p_pickt rfl rfl) rfl ?_ | refine g_pure (p_pickf rfl rfl) rfl ?_
            refine g_pure (p_assign rfl) rfl ?_
            refine g_nil ?_
            refine g_qt ?_
            refine g_ret ?_
            first | exact g_post (Ho := []) (rs := [.tmp 6]) rfl (.tmp rfl .nil) rfl .nil | (exfalso; rcases k4 (by assumption) with h | h <;> contradiction)
          · refine g_yes rfl rfl ?_
            first | refine g_pure (p_loadO (by rfl) rfl (by first | (apply Has.own; (repeat' (first | exact Take.here | apply Take.there)); done) | exact Has.ro (by assumption)) (by rfl)) rfl ?_ | refine g_pure (p_loadN (by rfl) rfl (by first | (apply Has.own; (repeat' (first | exact Take.here | apply Take.there)); done) | exact Has.ro (by assumption)) (by first | rfl | assumption)) rfl ?_
            refine g_yes rfl rfl ?_
            refine g_call (Hin := []) (Hr := ?hr58) (R := ?rr58) rfl rfl rfl ?hin58 ?hc58 ?hk58
            case hin58 => repeat' (first | exact Cover.nil | exact Take.here | apply Cover.cons | apply Take.there)
            case hc58 => intro ρ' hρ hR; exact empty_ok _ _
            rintro _ _ ⟨rfl, rfl⟩
            first | refine g_pure (p_pickt rfl rfl) rfl ?_ | refine g_pure (p_pickf rfl rfl) rfl ?_
            refine g_pure (p_move rfl) rfl ?_
            refine g_splitd rfl rfl (fun h30 => ?_) (fun h30 => ?_)
            · refine g_yes rfl rfl ?_
              refine g_call (Hin := []) (Hr := ?hr59) (R := ?rr59) rfl rfl rfl ?hin59 ?hc59 ?hk59
              case hin59 => repeat' (first | exact Cover.nil | exact Take.here | apply Cover.cons | apply Take.there)
              case hc59 => intro ρ' hρ hR; exact awake_ok
              rintro _ _ ⟨rfl, rfl⟩
              first | refine g_pure (p_pickt rfl rfl) rfl ?_ | refine g_pure (p_pickf rfl rfl) rfl ?_
              refine g_pure (p_assign rfl) rfl ?_
              refine g_nil ?_
              refine g_qt ?_
              refine g_ret ?_
              first | exact g_post (Ho := []) (rs := [.tmp 6]) rfl (.tmp rfl .nil) rfl .nil | (exfalso; rcases k4 (by assumption) with h | h <;> contradiction)
            · refine g_no rfl rfl rfl rfl ?_
              first | refine g_pure (p_pickt rfl rfl) rfl ?_ | refine g_pure (p_pickf rfl rfl) rfl ?_
              refine g_pure (p_assign rfl) rfl ?_
              refine g_nil ?_
              refine g_qt ?_
              refine g_ret ?_
              first | exact g_post (Ho := []) (rs := [.tmp 6]) rfl (.tmp rfl .nil) rfl .nil | (exfalso; rcases k4 (by assumption) with h | h <;> contradiction)
  · refine m_no rfl rfl rfl rfl rfl ?_
    refine m_no0 rfl rfl rfl rfl rfl ?_
    refine m_noe rfl rfl rfl rfl rfl (.some (by repeat' (first | exact Cover.nil | exact Take.here | apply Cover.cons | apply Take.there))) ?_
    first | refine m_float0 rfl (fun _ _ => p_pickt rfl rfl) rfl ?_ | refine m_float0 rfl (fun _ _ => p_pickf rfl rfl) rfl ?_
    refine m_float0 rfl (fun _ _ => p_neqbF (by rfl) rfl rfl (by first | exact decide_eq_decide.2 (l3.trans ⟨fun h => h.2, fun h => ⟨by assumption, h⟩⟩) | exact decide_eq_false (fun h => absurd (l3.1 h).1 (by assumption)))) rfl ?_
    refine m_float0 rfl (fun _ _ => p_move rfl) rfl ?_
    first | refine m_yes rfl rfl rfl (p_loadO (by rfl) rfl (by first | (apply Has.own; (repeat' (first | exact Take.here | apply Take.there)); done) | exact Has.ro (by assumption)) (by rfl)) rfl ?_ | refine m_yes rfl rfl rfl (p_loadN (by rfl) rfl (by first | (apply Has.own; (repeat' (first | exact Take.here | apply Take.there)); done) | exact Has.ro (by assumption)) (by first | rfl | assumption)) rfl ?_
    refine m_yes0 rfl rfl rfl (fun _ _ => p_move rfl) rfl ?_
    refine m_call (Hin := []) (Hr := ?hr60) (R := ?rr60) rfl (wantedY rfl rfl) rfl rfl rfl ?hin60 ?hc60 ?hk60
    case hin60 => repeat' (first | exact Cover.nil | exact Take.here | apply Cover.cons | apply Take.there)
    case hc60 => intro ρ' hρ hR; exact has_ok _ _ _
    rintro _ _ ⟨rfl, rfl⟩
    refine ⟨.some (by repeat' (first | exact Cover.nil | exact Take.here | apply Cover.cons | apply Take.there)), ?_⟩
    refine m_yes0 rfl rfl rfl (fun _ _ => p_move rfl) rfl ?_
    refine m_splitd 16 rfl rfl (fun h32 => ?_) (fun h32 => ?_)
    · refine m_no rfl rfl rfl rfl rfl ?_
      refine m_no0 rfl rfl rfl rfl rfl ?_
      refine m_noe rfl rfl rfl rfl rfl (.some (by repeat' (first | exact Cover.nil | exact Take.here | apply Cover.cons | apply Take.there))) ?_
      first | refine m_yes0 rfl rfl rfl (fun _ _ => p_pickt rfl rfl) rfl ?_ | refine m_yes0 rfl rfl rfl (fun _ _ => p_pickf rfl rfl) rfl ?_
      refine m_yes0 rfl rfl rfl (fun _ _ => p_move rfl) rfl ?_
      first | refine m_yes rfl rfl rfl (p_loadO (by rfl) rfl (by first | (apply Has.own; (repeat' (first | exact Take.here | apply Take.there)); done) | exact Has.ro (by assumption)) (by rfl)) rfl ?_ | refine m_yes rfl rfl rfl (p_loadN (by rfl) rfl (by first | (apply Has.own; (repeat' (first | exact Take.here | apply Take.there)); done) | exact Has.ro (by assumption)) (by first | rfl | assumption)) rfl ?_
      refine m_yes0 rfl rfl rfl (fun _ _ => p_move rfl) rfl ?_
      refine m_call (Hin := []) (Hr := ?hr61) (R := ?rr61) rfl (wantedY rfl rfl) rfl rfl rfl ?hin61 ?hc61 ?hk61
      case hin61 => repeat' (first | exact Cover.nil | exact Take.here | apply Cover.cons | apply Take.there)
      case hc61 => intro ρ' hρ hR; exact bool_t (has_ok _ _ _) (k3 (by first | exact .inl (by assumption) | exact .inr (by assumption)))
      rintro _ _ ⟨rfl, rfl⟩
      refine ⟨.none (by kernel_rfl), ?_⟩
      refine m_yes0 rfl rfl rfl (fun _ _ => p_not rfl) rfl ?_
      first | refine m_yes0 rfl rfl rfl (fun _ _ => p_pickt rfl rfl) rfl ?_ | refine m_yes0 rfl rfl rfl (fun _ _ => p_pickf rfl rfl) rfl ?_
      first | refine m_float0 rfl (fun _ _ => p_pickt rfl rfl) rfl ?_ | refine m_float0 rfl (fun _ _ => p_pickf rfl rfl) rfl ?_
      refine m_nil ?_
      refine g_qt ?_
      refine g_iff rfl ?_
      refine g_skip ?_
      refine g_qt ?_
      refine g_seq ?_
      refine g_region ?_
      first | refine g_pure (p_loadO (by rfl) rfl (by first | (apply Has.own; (repeat' (first | exact Take.here | apply Take.there)); done) | exact Has.ro (by assumption)) (by rfl)) rfl ?_ | refine g_pure (p_loadN (by rfl) rfl (by first | (apply Has.own; (repeat' (first | exact Take.here | apply Take.there)); done) | exact Has.ro (by assumption)) (by first | rfl | assumption)) rfl ?_
      first | refine g_pure (p_loadO (by rfl) rfl (by first | (apply Has.own; (repeat' (first | exact Take.here | apply Take.there)); done) | exact Has.ro (by assumption)) (by rfl)) rfl ?_ | refine g_pure (p_loadN (by rfl) rfl (by first | (apply Has.own; (repeat' (first | exact Take.here | apply Take.there)); done) | exact Has.ro (by assumption)) (by first | rfl | assumption)) rfl ?_
      refine g_call (Hin := []) (Hr := ?hr62) (R := ?rr62) rfl rfl rfl ?hin62 ?hc62 ?hk62
      case hin62 => repeat' (first | exact Cover.nil | exact Take.here | apply Cover.cons | apply Take.there)
      case hc62 => intro ρ' hρ hR; exact within_ok _ _ _ _
      rintro _ _ ⟨rfl, rfl⟩
      refine g_pure (p_not rfl) rfl ?_
      refine g_pure (p_move rfl) rfl ?_
      refine g_splitnd rfl rfl (fun h35 => ?_) (fun h35 => ?_)
      · refine g_no rfl rfl rfl rfl ?_
        refine g_no rfl rfl rfl rfl ?_
        refine g_no rfl rfl rfl rfl ?_
        first | refine g_pure (p_pickt rfl rfl) rfl ?_ | refine g_pure (p_pickf rfl rfl) rfl ?_
        refine g_pure (p_move rfl) rfl ?_
        refine g_no rfl rfl rfl rfl ?_
        refine g_no rfl rfl rfl rfl ?_
        first | refine g_pure (p_pickt rfl rfl) rfl ?_ | refine g_pure (p_pickf rfl rfl) rfl ?_
        refine g_pure (p_move rfl) rfl ?_
        refine g_yes rfl rfl ?_
        refine g_call (Hin := []) (Hr := ?hr63) (R := ?rr63) rfl rfl rfl ?hin63 ?hc63 ?hk63
        case hin63 => repeat' (first | exact Cover.nil | exact Take.here | apply Cover.cons | apply Take.there)
        case hc63 => intro ρ' hρ hR; exact awake_ok
        rintro _ _ ⟨rfl, rfl⟩
        first | refine g_pure (p_pickt rfl rfl) rfl ?_ | refine g_pure (p_pickf rfl rfl) rfl ?_
        refine g_pure (p_assign rfl) rfl ?_
        refine g_nil ?_
        refine g_qt ?_
        refine g_ret ?_
        first | exact g_post (Ho := []) (rs := [.tmp 6]) rfl (.tmp rfl .nil) rfl .nil | (exfalso; rcases k4 (by assumption) with h | h <;> contradiction)
      · refine g_yes rfl rfl ?_
        first | refine g_pure (p_loadO (by rfl) rfl (by first | (apply Has.own; (repeat' (first | exact Take.here | apply Take.there)); done) | exact Has.ro (by assumption)) (by rfl)) rfl ?_ | refine g_pure (p_loadN (by rfl) rfl (by first | (apply Has.own; (repeat' (first | exact Take.here | apply Take.there)); done) | exact Has.ro (by assumption)) (by first | rfl | assumption)) rfl ?_
        refine g_yes rfl rfl ?_
        first | refine g_pure (p_loadO (by rfl) rfl (by first | (apply Has.own; (repeat' (first | exact Take.here | apply Take.there)); done) | exact Has.ro (by assumption)) (by rfl)) rfl ?_ | refine g_pure (p_loadN (by rfl) rfl (by first | (apply Has.own; (repeat' (first | exact Take.here | apply Take.there)); done) | exact Has.ro (by assumption)) (by first | rfl | assumption)) rfl ?_
        refine g_yes rfl rfl ?_
        refine g_pure (p_eqagg (eqSpan 9998 _ _ _ _) (by kernel_rfl) rfl rfl) rfl ?_
        first | refine g_pure (p_pickt rfl rfl) rfl ?_ | refine g_pure (p_pickf rfl rfl) rfl ?_
        refine g_pure (p_move rfl) rfl ?_
        refine g_splitd rfl rfl (fun h38 => ?_) (fun h38 => ?_)
        · refine g_no rfl rfl rfl rfl ?_
          refine g_no rfl rfl rfl rfl ?_
          first | refine g_pure (p_pickt rfl rfl) rfl ?_ | refine g_pure (p_pickf rfl rfl) rfl ?_
          refine g_pure (p_move rfl) rfl ?_
          refine g_yes rfl rfl ?_
          refine g_call (Hin := []) (Hr := ?hr64) (R := ?rr64) rfl rfl rfl ?hin64 ?hc64 ?hk64
          case hin64 => repeat' (first | exact Cover.nil | exact Take.here | apply Cover.cons | apply Take.there)
          case hc64 => intro ρ' hρ hR; exact awake_ok
          rintro _ _ ⟨rfl, rfl⟩
          first | refine g_pure (p_pickt rfl rfl) rfl ?_ | refine g_pure (p_pickf rfl rfl) rfl ?_
          refine g_pure (p_assign rfl) rfl ?_
          refine g_nil ?_
          refine g_qt ?_
          refine g_ret ?_
          first | exact g_post (Ho := []) (rs := [.tmp 6]) rfl (.tmp rfl .nil) rfl .nil | (exfalso; rcases k4 (by assumption) with h | h <;> contradiction)
        · refine g_yes rfl rfl ?_
          first | refine g_pure (p_loadO (by rfl) rfl (by first | (apply Has.own; (repeat' (first | exact Take.here | apply Take.there)); done) | exact Has.ro (by assumption)) (by rfl)) rfl ?_ | refine g_pure (p_loadN (by rfl) rfl (by first | (apply Has.own; (repeat' (first | exact Take.here | apply Take.there)); done) | exact Has.ro (by assumption)) (by first | rfl | assumption)) rfl ?_
          refine g_yes rfl rfl ?_
          refine g_call (Hin := []) (Hr := ?hr65) (R := ?rr65) rfl rfl rfl ?hin65 ?hc65 ?hk65
          case hin65 => repeat' (first | exact Cover.nil | exact Take.here | apply Cover.cons | apply Take.there)
          case hc65 => intro ρ' hρ hR; exact empty_ok _ _
          rintro _ _ ⟨rfl, rfl⟩
          first | refine g_pure (p_pickt rfl rfl) rfl ?_ | refine g_pure (p_pickf rfl rfl) rfl ?_
          refine g_pure (p_move rfl) rfl ?_
          refine g_splitd rfl rfl (fun h40 => ?_) (fun h40 => ?_)
          · refine g_yes rfl rfl ?_
            refine g_call (Hin := []) (Hr := ?hr66) (R := ?rr66) rfl rfl rfl ?hin66 ?hc66 ?hk66
            case hin66 => repeat' (first | exact Cover.nil | exact Take.here | apply Cover.cons | apply Take.there)
            case hc66 => intro ρ' hρ hR; exact awake_ok
            rintro _ _ ⟨rfl, rfl⟩
            first | refine g_pure (p_pickt rfl rfl) rfl ?_ | refine g_pure (p_pickf rfl rfl) rfl ?_
            refine g_pure (p_assign rfl) rfl ?_
            refine g_nil ?_
            refine g_qt ?_
            refine g_ret ?_
            first | exact g_post (Ho := []) (rs := [.tmp 6]) rfl (.tmp rfl .nil) rfl .nil | (exfalso; rcases k4 (by assumption) with h | h <;> contradiction)
          · refine g_no rfl rfl rfl rfl ?_
            first | refine g_pure (p_pickt rfl rfl) rfl ?_ | refine g_pure (p_pickf rfl rfl) rfl ?_
            refine g_pure (p_assign rfl) rfl ?_
            refine g_nil ?_
            refine g_qt ?_
            refine g_ret ?_
            first | exact g_post (Ho := []) (rs := [.tmp 6]) rfl (.tmp rfl .nil) rfl .nil | (exfalso; rcases k4 (by assumption) with h | h <;> contradiction)
    · first | refine m_yes rfl rfl rfl (p_loadO (by rfl) rfl (by first | (apply Has.own; (repeat' (first | exact Take.here | apply Take.there)); done) | exact Has.ro (by assumption)) (by rfl)) rfl ?_ | refine m_yes rfl rfl rfl (p_loadN (by rfl) rfl (by first | (apply Has.own; (repeat' (first | exact Take.here | apply Take.there)); done) | exact Has.ro (by assumption)) (by first | rfl | assumption)) rfl ?_
      refine m_yes0 rfl rfl rfl (fun _ _ => p_move rfl) rfl ?_
      refine m_call (Hin := []) (Hr := ?hr67) (R := ?rr67) rfl (wantedY rfl rfl) rfl rfl rfl ?hin67 ?hc67 ?hk67
      case hin67 => repeat' (first | exact Cover.nil | exact Take.here | apply Cover.cons | apply Take.there)
      case hc67 => intro ρ' hρ hR; exact has_ok _ _ _
      rintro _ _ ⟨rfl, rfl⟩
      refine ⟨.some (by repeat' (first | exact Cover.nil | exact Take.here | apply Cover.cons | apply Take.there)), ?_⟩
      first | refine m_yes0 rfl rfl rfl (fun _ _ => p_pickt rfl rfl) rfl ?_ | refine m_yes0 rfl rfl rfl (fun _ _ => p_pickf rfl rfl) rfl ?_
      refine m_yes0 rfl rfl rfl (fun _ _ => p_move rfl) rfl ?_
      refine m_splitd 21 rfl rfl (fun h41 => ?_) (fun h41 => ?_)
      · first | refine m_yes rfl rfl rfl (p_loadO (by rfl) rfl (by first | (apply Has.own; (repeat' (first | exact Take.here | apply Take.there)); done) | exact Has.ro (by assumption)) (by rfl)) rfl ?_ | refine m_yes rfl rfl rfl (p_loadN (by rfl) rfl (by first | (apply Has.own; (repeat' (first | exact Take.here | apply Take.there)); done) | exact Has.ro (by assumption)) (by first | rfl | assumption)) rfl ?_
        refine m_yes0 rfl rfl rfl (fun _ _ => p_move rfl) rfl ?_
        refine m_call (Hin := []) (Hr := ?hr68) (R := ?rr68) rfl (wantedY rfl rfl) rfl rfl rfl ?hin68 ?hc68 ?hk68
        case hin68 => repeat' (first | exact Cover.nil | exact Take.here | apply Cover.cons | apply Take.there)
        case hc68 => intro ρ' hρ hR; exact bool_t (has_ok _ _ _) (k3 (by first | exact .inl (by assumption) | exact .inr (by assumption)))
        rintro _ _ ⟨rfl, rfl⟩
        refine ⟨.none (by kernel_rfl), ?_⟩
        refine m_yes0 rfl rfl rfl (fun _ _ => p_not rfl) rfl ?_
        first | refine m_yes0 rfl rfl rfl (fun _ _ => p_pickt rfl rfl) rfl ?_ | refine m_yes0 rfl rfl rfl (fun _ _ => p_pickf rfl rfl) rfl ?_
        first | refine m_float0 rfl (fun _ _ => p_pickt rfl rfl) rfl ?_ | refine m_float0 rfl (fun _ _ => p_pickf rfl rfl) rfl ?_
        refine m_nil ?_
        refine g_qt ?_
        refine g_iff rfl ?_
        refine g_skip ?_
        refine g_qt ?_
        refine g_seq ?_
        refine g_region ?_
        first | refine g_pure (p_loadO (by rfl) rfl (by first | (apply Has.own; (repeat' (first | exact Take.here | apply Take.there)); done) | exact Has.ro (by assumption)) (by rfl)) rfl ?_ | refine g_pure (p_loadN (by rfl) rfl (by first | (apply Has.own; (repeat' (first | exact Take.here | apply Take.there)); done) | exact Has.ro (by assumption)) (by first | rfl | assumption)) rfl ?_
        first | refine g_pure (p_loadO (by rfl) rfl (by first | (apply Has.own; (repeat' (first | exact Take.here | apply Take.there)); done) | exact Has.ro (by assumption)) (by rfl)) rfl ?_ | refine g_pure (p_loadN (by rfl) rfl (by first | (apply Has.own; (repeat' (first | exact Take.here | apply Take.there)); done) | exact Has.ro (by assumption)) (by first | rfl | assumption)) rfl ?_
        refine g_call (Hin := []) (Hr := ?hr69) (R := ?rr69) rfl rfl rfl ?hin69 ?hc69 ?hk69
        case hin69 => repeat' (first | exact Cover.nil | exact Take.here | apply Cover.cons | apply Take.there)
        case hc69 => intro ρ' hρ hR; exact within_ok _ _ _ _
        rintro _ _ ⟨rfl, rfl⟩
        refine g_pure (p_not rfl) rfl ?_
        refine g_pure (p_move rfl) rfl ?_
        refine g_splitnd rfl rfl (fun h43 => ?_) (fun h43 => ?_)
        · refine g_no rfl rfl rfl rfl ?_
          refine g_no rfl rfl rfl rfl ?_
          refine g_no rfl rfl rfl rfl ?_
          first | refine g_pure (p_pickt rfl rfl) rfl ?_ | refine g_pure (p_pickf rfl rfl) rfl ?_
          refine g_pure (p_move rfl) rfl ?_
          refine g_no rfl rfl rfl rfl ?_
          refine g_no rfl rfl rfl rfl ?_
          first | refine g_pure (p_pickt rfl rfl) rfl ?_ | refine g_pure (p_pickf rfl rfl) rfl ?_
          refine g_pure (p_move rfl) rfl ?_
          refine g_yes rfl rfl ?_
          refine g_call (Hin := []) (Hr := ?hr70) (R := ?rr70) rfl rfl rfl ?hin70 ?hc70 ?hk70
          case hin70 => repeat' (first | exact Cover.nil | exact Take.here | apply Cover.cons | apply Take.there)
          case hc70 => intro ρ' hρ hR; exact awake_ok
          rintro _ _ ⟨rfl, rfl⟩
          first | refine g_pure (p_pickt rfl rfl) rfl ?_ | refine g_pure (p_pickf rfl rfl) rfl ?_
          refine g_pure (p_assign rfl) rfl ?_
          refine g_nil ?_
          refine g_qt ?_
          refine g_ret ?_
          first | exact g_post (Ho := []) (rs := [.tmp 6]) rfl (.tmp rfl .nil) rfl .nil | (exfalso; rcases k4 (by assumption) with h | h <;> contradiction)
        · refine g_yes rfl rfl ?_
          first | refine g_pure (p_loadO (by rfl) rfl (by first | (apply Has.own; (repeat' (first | exact Take.here | apply Take.there)); done) | exact Has.ro (by assumption)) (by rfl)) rfl ?_ | refine g_pure (p_loadN (by rfl) rfl (by first | (apply Has.own; (repeat' (first | exact Take.here | apply Take.there)); done) | exact Has.ro (by assumption)) (by first | rfl | assumption)) rfl ?_
          refine g_yes rfl rfl ?_
          first | refine g_pure (p_loadO (by rfl) rfl (by first | (apply Has.own; (repeat' (first | exact Take.here | apply Take.there)); done) | exact Has.ro (by assumption)) (by rfl)) rfl ?_ | refine g_pure (p_loadN (by rfl) rfl (by first | (apply Has.own; (repeat' (first | exact Take.here | apply Take.there)); done) | exact Has.ro (by assumption)) (by first | rfl | assumption)) rfl ?_
          refine g_yes rfl rfl ?_
          refine g_pure (p_eqagg (eqSpan 9998 _ _ _ _) (by kernel_rfl) rfl rfl) rfl ?_
          first | refine g_pure (p_pickt rfl rfl) rfl ?_ | refine g_pure (p_pickf rfl rfl) rfl ?_
          refine g_pure (p_move rfl) rfl ?_
          refine g_splitd rfl rfl (fun h46 => ?_) (fun h46 => ?_)
          · refine g_no rfl rfl rfl rfl ?_
            refine g_no rfl rfl rfl rfl ?_
            first | refine g_pure (p_pickt rfl rfl) rfl ?_ | refine g_pure (p_pickf rfl rfl) rfl ?_
            refine g_pure (p_move rfl) rfl ?_
            refine g_yes rfl rfl ?_
            refine g_call (Hin := []) (Hr := ?hr71) (R := ?rr71) rfl rfl rfl ?hin71 ?hc71 ?hk71
            case hin71 => repeat' (first | exact Cover.nil | exact Take.here | apply Cover.cons | apply Take.there)
            case hc71 => intro ρ' hρ hR; exact awake_ok
            rintro _ _ ⟨rfl, rfl⟩
            first | refine g_pure (p_pickt rfl rfl) rfl ?_ | refine g_pure (p_pickf rfl rfl) rfl ?_
            refine g_pure (p_assign rfl) rfl ?_
            refine g_nil ?_
            refine g_qt ?_
            refine g_ret ?_
            first | exact g_post (Ho := []) (rs := [.tmp 6]) rfl (.tmp rfl .nil) rfl .nil | (exfalso; rcases k4 (by assumption) with h | h <;> contradiction)
          · refine g_yes rfl rfl ?_
            first | refine g_pure (p_loadO (by rfl) rfl (by first | (apply Has.own; (repeat' (first | exact Take.here | apply Take.there)); done) | exact Has.ro (by assumption)) (by rfl)) rfl ?_ | refine g_pure (p_loadN (by rfl) rfl (by first | (apply Has.own; (repeat' (first | exact Take.here | apply Take.there)); done) | exact Has.ro (by assumption)) (by first | rfl | assumption)) rfl ?_
            refine g_yes rfl rfl ?_
            refine g_call (Hin := []) (Hr := ?hr72) (R := ?rr72) rfl rfl rfl ?hin72 ?hc72 ?hk72
            case hin72 => repeat' (first | exact Cover.nil | exact Take.here | apply Cover.cons | apply Take.there)
            case hc72 => intro ρ' hρ hR; exact empty_ok _ _
            rintro _ _ ⟨rfl, rfl⟩
            first | refine g_pure (p_pickt rfl rfl) rfl ?_ | refine g_pure (p_pickf rfl rfl) rfl ?_
            refine g_pure (p_move rfl) rfl ?_
            refine g_splitd rfl rfl (fun h48 => ?_) (fun h48 => ?_)
            · refine g_yes rfl rfl ?_
              refine g_call (Hin := []) (Hr := ?hr73) (R := ?rr73) rfl rfl rfl ?hin73 ?hc73 ?hk73
              case hin73 => repeat' (first | exact Cover.nil | exact Take.here | apply Cover.cons | apply Take.there)
              case hc73 => intro ρ' hρ hR; exact awake_ok
              rintro _ _ ⟨rfl, rfl⟩
              first | refine g_pure (p_pickt rfl rfl) rfl ?_ | refine g_pure (p_pickf rfl rfl) rfl ?_
              refine g_pure (p_assign rfl) rfl ?_
              refine g_nil ?_
              refine g_qt ?_
              refine g_ret ?_
              first | exact g_post (Ho := []) (rs := [.tmp 6]) rfl (.tmp rfl .nil) rfl .nil | (exfalso; rcases k4 (by assumption) with h | h <;> contradiction)
            · refine g_no rfl rfl rfl rfl ?_
              first | refine g_pure (p_pickt rfl rfl) rfl ?_ | refine g_pure (p_pickf rfl rfl) rfl ?_
              refine g_pure (p_assign rfl) rfl ?_
              refine g_nil ?_
              refine g_qt ?_
              refine g_ret ?_
              first | exact g_post (Ho := []) (rs := [.tmp 6]) rfl (.tmp rfl .nil) rfl .nil | (exfalso; rcases k4 (by assumption) with h | h <;> contradiction)
      · refine m_no rfl rfl rfl rfl rfl ?_
        refine m_no0 rfl rfl rfl rfl rfl ?_
        refine m_noe rfl rfl rfl rfl rfl (.none (by kernel_rfl)) ?_
        refine m_no0 rfl rfl rfl rfl rfl ?_
        first | refine m_yes0 rfl rfl rfl (fun _ _ => p_pickt rfl rfl) rfl ?_ | refine m_yes0 rfl rfl rfl (fun _ _ => p_pickf rfl rfl) rfl ?_
        first | refine m_float0 rfl (fun _ _ => p_pickt rfl rfl) rfl ?_ | refine m_float0 rfl (fun _ _ => p_pickf rfl rfl) rfl ?_
        refine m_nil ?_
        refine g_qt ?_
        refine g_iff rfl ?_
        refine g_skip ?_
        refine g_qt ?_
        refine g_seq ?_
        refine g_region ?_
        first | refine g_pure (p_loadO (by rfl) rfl (by first | (apply Has.own; (repeat' (first | exact Take.here | apply Take.there)); done) | exact Has.ro (by assumption)) (by rfl)) rfl ?_ | refine g_pure (p_loadN (by rfl) rfl (by first | (apply Has.own; (repeat' (first | exact Take.here | apply Take.there)); done) | exact Has.ro (by assumption)) (by first | rfl | assumption)) rfl ?_
        first | refine g_pure (p_loadO (by rfl) rfl (by first | (apply Has.own; (repeat' (first | exact Take.here | apply Take.there)); done) | exact Has.ro (by assumption)) (by rfl)) rfl ?_ | refine g_pure (p_loadN (by rfl) rfl (by first | (apply Has.own; (repeat' (first | exact Take.here | apply Take.there)); done) | exact Has.ro (by assumption)) (by first | rfl | assumption)) rfl ?_
        refine g_call (Hin := []) (Hr := ?hr74) (R := ?rr74) rfl rfl rfl ?hin74 ?hc74 ?hk74
        case hin74 => repeat' (first | exact Cover.nil | exact Take.here | apply Cover.cons | apply Take.there)
        case hc74 => intro ρ' hρ hR; exact within_ok _ _ _ _
        rintro _ _ ⟨rfl, rfl⟩
        refine g_pure (p_not rfl) rfl ?_
        refine g_pure (p_move rfl) rfl ?_
        refine g_splitnd rfl rfl (fun h50 => ?_) (fun h50 => ?_)
        · refine g_no rfl rfl rfl rfl ?_
          refine g_no rfl rfl rfl rfl ?_
          refine g_no rfl rfl rfl rfl ?_
          first | refine g_pure (p_pickt rfl rfl) rfl ?_ | refine g_pure (p_pickf rfl rfl) rfl ?_
          refine g_pure (p_move rfl) rfl ?_
          refine g_no rfl rfl rfl rfl ?_
          refine g_no rfl rfl rfl rfl ?_
          first | refine g_pure (p_pickt rfl rfl) rfl ?_ | refine g_pure (p_pickf rfl rfl) rfl ?_
          refine g_pure (p_move rfl) rfl ?_
          refine g_yes rfl rfl ?_
          refine g_call (Hin := []) (Hr := ?hr75) (R := ?rr75) rfl rfl rfl ?hin75 ?hc75 ?hk75
          case hin75 => repeat' (first | exact Cover.nil | exact Take.here | apply Cover.cons | apply Take.there)
          case hc75 => intro ρ' hρ hR; exact awake_ok
          rintro _ _ ⟨rfl, rfl⟩
          first | refine g_pure (p_pickt rfl rfl) rfl ?_ | refine g_pure (p_pickf rfl rfl) rfl ?_
          refine g_pure (p_assign rfl) rfl ?_
          refine g_nil ?_
          refine g_qt ?_
          refine g_ret ?_
          first | exact g_post (Ho := []) (rs := [.tmp 6]) rfl (.tmp rfl .nil) rfl .nil | (exfalso; rcases k4 (by assumption) with h | h <;> contradiction)
        · refine g_yes rfl rfl ?_
          first | refine g_pure (p_loadO (by rfl) rfl (by first | (apply Has.own; (repeat' (first | exact Take.here | apply Take.there)); done) | exact Has.ro (by assumption)) (by rfl)) rfl ?_ | refine g_pure (p_loadN (by rfl) rfl (by first | (apply Has.own; (repeat' (first | exact Take.here | apply Take.there)); done) | exact Has.ro (by assumption)) (by first | rfl | assumption)) rfl ?_
          refine g_yes rfl rfl ?_
          first | refine g_pure (p_loadO (by rfl) rfl (by first | (apply Has.own; (repeat' (first | exact Take.here | apply Take.there)); done) | exact Has.ro (by assumption)) (by rfl)) rfl ?_ | refine g_pure (p_loadN (by rfl) rfl (by first | (apply Has.own; (repeat' (first | exact Take.here | apply Take.there)); done) | exact Has.ro (by assumption)) (by first | rfl | assumption)) rfl ?_
          refine g_yes rfl rfl ?_
          refine g_pure (p_eqagg (eqSpan 9998 _ _ _ _) (by kernel_rfl) rfl rfl) rfl ?_
          first | refine g_pure (p_pickt rfl rfl) rfl ?_ | refine g_pure (p_pickf rfl rfl) rfl ?_
          refine g_pure (p_move rfl) rfl ?_
          refine g_splitd rfl rfl (fun h53 => ?_) (fun h53 => ?_)
          · refine g_no rfl rfl rfl rfl ?_
            refine g_no rfl rfl rfl rfl ?_
            first | refine g_pure (p_pickt rfl rfl) rfl ?_ | refine g_pure (p_pickf rfl rfl) rfl ?_
            refine g_pure (p_move rfl) rfl ?_
            refine g_yes rfl rfl ?_
            refine g_call (Hin := []) (Hr := ?hr76) (R := ?rr76) rfl rfl rfl ?hin76 ?hc76 ?hk76
            case hin76 => repeat' (first | exact Cover.nil | exact Take.here | apply Cover.cons | apply Take.there)
            case hc76 => intro ρ' hρ hR; exact awake_ok
            rintro _ _ ⟨rfl, rfl⟩
            first | refine g_pure (p_pickt rfl rfl) rfl ?_ | refine g_pure (p_pickf rfl rfl) rfl ?_
            refine g_pure (p_assign rfl) rfl ?_
            refine g_nil ?_
            refine g_qt ?_
            refine g_ret ?_
            first | exact g_post (Ho := []) (rs := [.tmp 6]) rfl (.tmp rfl .nil) rfl .nil | (exfalso; rcases k4 (by assumption) with h | h <;> contradiction)
          · refine g_yes rfl rfl ?_
            first | refine g_pure (p_loadO (by rfl) rfl (by first | (apply Has.own; (repeat' (first | exact Take.here | apply Take.there)); done) | exact Has.ro (by assumption)) (by rfl)) rfl ?_ | refine g_pure (p_loadN (by rfl) rfl (by first | (apply Has.own; (repeat' (first | exact Take.here | apply Take.there)); done) | exact Has.ro (by assumption)) (by first | rfl | assumption)) rfl ?_
            refine g_yes rfl rfl ?_
            refine g_call (Hin := []) (Hr := ?hr77) (R := ?rr77) rfl rfl rfl ?hin77 ?hc77 ?hk77
            case hin77 => repeat' (first | exact Cover.nil | exact Take.here | apply Cover.cons | apply Take.there)
            case hc77 => intro ρ' hρ hR; exact empty_ok _ _
            rintro _ _ ⟨rfl, rfl⟩
            first | refine g_pure (p_pickt rfl rfl) rfl ?_ | refine g_pure (p_pickf rfl rfl) rfl ?_
            refine g_pure (p_move rfl) rfl ?_
            refine g_splitd rfl rfl (fun h55 => ?_) (fun h55 => ?_)
            · refine g_yes rfl rfl ?_
              refine g_call (Hin := []) (Hr := ?hr78) (R := ?rr78) rfl rfl rfl ?hin78 ?hc78 ?hk78
              case hin78 => repeat' (first | exact Cover.nil | exact Take.here | apply Cover.cons | apply Take.there)
              case hc78 => intro ρ' hρ hR; exact awake_ok
              rintro _ _ ⟨rfl, rfl⟩
              first | refine g_pure (p_pickt rfl rfl) rfl ?_ | refine g_pure (p_pickf rfl rfl) rfl ?_
              refine g_pure (p_assign rfl) rfl ?_
              refine g_nil ?_
              refine g_qt ?_
              refine g_ret ?_
              first | exact g_post (Ho := []) (rs := [.tmp 6]) rfl (.tmp rfl .nil) rfl .nil | (exfalso; rcases k4 (by assumption) with h | h <;> contradiction)
            · refine g_no rfl rfl rfl rfl ?_
              first | refine g_pure (p_pickt rfl rfl) rfl ?_ | refine g_pure (p_pickf rfl rfl) rfl ?_
              refine g_pure (p_assign rfl) rfl ?_
              refine g_nil ?_
              refine g_qt ?_
              refine g_ret ?_
              first | exact g_post (Ho := []) (rs := [.tmp 6]) rfl (.tmp rfl .nil) rfl .nil | (exfalso; rcases k4 (by assumption) with h | h <;> contradiction)
end Go.Proofs.Ytlcipnligbjclaa
