/- Chapter 05: ValueApplies, ValueLifts. Conditions: what the library's variables hold (LibK). -/
import Derived.Test.YtkbofpcnhjopaaaDoorH4
namespace Go.Proofs.YtkbofpcnhjopaaaDoor
set_option maxRecDepth 8000
set_option linter.unusedVariables false
set_option linter.unusedSimpArgs false
set_option linter.unusedSectionVars false
open Go Go.Z Go.Z.Val

theorem eqCe (d : Nat) (a b c e : Int) (w : World) : (Op.equalIn (d + 2) 39 (.agg #[.int .i64 a, .int .i64 b]) (.agg #[.int .i64 c, .int .i64 e])).run Tryd.prog w = .ok (decide (a = c) && decide (b = e)) w := by
  have hf : Tryd.prog.fieldsOf 39 = match Tryd.t38.desc with | .struct fs => fs | _ => #[] := by kernel_rfl
  have hg : ∀ w, (isAgg 3).run Tryd.prog w = .ok false w := fun w => TyC.run_agg (ty3) w
  rw [run_equalIn_agg w (d + 1) _ _ _ (by kernel_rfl) (by kernel_rfl), hf]
  have e1 : ∀ i j : Int, (i == j) = decide (i = j) := fun i j => rfl
  have hu : Tryd.prog.underlying 3 = some (.int .i64) := Tryd.underlying3
  simp only [Tryd.t38, Op.eqFields, part, Sem.run_bind, hg, Result.andThen_ok]
  by_cases h1 : a = c <;> by_cases h2 : b = e <;> simp [run_equalIn_int, hu, hg, h1, h2]
theorem eqCeT (d : Nat) (a b : Int) (w : World) : (Op.equalIn (d + 2) 39 (.agg #[.int .i64 a, .int .i64 b]) (.agg #[.int .i64 a, .int .i64 b])).run Tryd.prog w = .ok true w := by
  rw [eqCe]; simp

theorem vapplies_ok {ρ : Nat → Obj → Prop} (hk : LibK ρ) (op : Int) {aa : Option Addr} {ac : Nat} {args : List Int} (ha : RSl ρ 1 aa args.length (args.map encI)) :
    Con Tryd.prog ρ 6 #[.int .i64 op, .slice aa args.length ac] [] (fun v _ => v = .bool true) := by
  refine con_intro Tryd.func6 Tryd.call6 rfl Tryd.ntmps6 rfl (L := [(0, _), (1, _)]) rfl fun w hh => ?_
  refine g_seq ?_
  refine g_region ?_
  refine g_pure (p_assign rfl) rfl ?_
  refine g_nil ?_
  refine g_qt ?_
  refine g_seq ?_
  refine g_seq ?_
  refine g_region ?_
  refine g_pure (p_move rfl) rfl ?_
  refine g_pure (p_len (by rfl) rfl) rfl ?_
  refine g_pure (p_gtr rfl rfl) rfl ?_
  refine g_nil ?_
  refine g_qt ?_
  refine g_ifd rfl (fun h => ?_) (fun h => ?_)
  · refine g_seq ?_
    refine g_region ?_
    refine g_call (Hin := []) (Hr := ?hr1) (R := ?rr1) rfl rfl rfl ?hin1 ?hc1 ?hk1
    case hin1 => repeat' (first | exact Cover.nil | exact Take.here | apply Cover.cons | apply Take.there)
    case hc1 => intro ρ' hρ hR; exact vawake_ok (hk.mono hρ)
    rintro _ _ ⟨rfl, rfl⟩
    refine g_pure (p_assign rfl) rfl ?_
    refine g_nil ?_
    refine g_qt ?_
    refine g_ret ?_
    refine g_qt_ret ?_
    exact g_post (Ho := []) (rs := [.tmp 4]) rfl (.tmp rfl .nil) rfl .nil
  · refine g_skip ?_
    refine g_qt ?_
    refine g_seq ?_
    refine g_region ?_
    refine g_pure (p_move rfl) rfl ?_
    refine g_pure (p_move rfl) rfl ?_
    refine g_call (Hin := []) (Hr := ?hr2) (R := ?rr2) rfl rfl rfl ?hin2 ?hc2 ?hk2
    case hin2 => repeat' (first | exact Cover.nil | exact Take.here | apply Cover.cons | apply Take.there)
    case hc2 => intro ρ' hρ hR; exact apply_ok op (ha.mono hρ) (by omega)
    rintro _ _ ⟨rfl, rfl⟩
    refine g_pure (p_move rfl) rfl ?_
    refine g_pure (p_extract rfl rfl) rfl ?_
    refine g_pure (p_extract rfl rfl) rfl ?_
    refine g_pure (p_assign rfl) rfl ?_
    refine g_pure (p_assign rfl) rfl ?_
    refine g_nil ?_
    refine g_qt ?_
    refine g_seq ?_
    refine g_region ?_
    refine g_pure (p_move rfl) rfl ?_
    refine g_pure (p_move rfl) rfl ?_
    refine g_call (Hin := []) (Hr := ?hr3) (R := ?rr3) rfl rfl rfl ?hin3 ?hc3 ?hk3
    case hin3 => repeat' (first | exact Cover.nil | exact Take.here | apply Cover.cons | apply Take.there)
    case hc3 => intro ρ' hρ hR; exact dapply_ok op (ha.mono hρ) (by omega)
    rintro _ _ ⟨rfl, rfl⟩
    refine g_pure (p_move rfl) rfl ?_
    refine g_pure (p_extract rfl rfl) rfl ?_
    refine g_pure (p_extract rfl rfl) rfl ?_
    refine g_pure (p_assign rfl) rfl ?_
    refine g_pure (p_assign rfl) rfl ?_
    refine g_nil ?_
    refine g_qt ?_
    refine g_seq ?_
    refine g_region ?_
    refine g_pure (p_move rfl) rfl ?_
    refine g_pure (p_move rfl) rfl ?_
    refine g_pure (p_eqlT rfl rfl rfl) rfl ?_
    refine g_pure (p_move rfl) rfl ?_
    refine g_yes rfl rfl ?_
    refine g_pure (p_move rfl) rfl ?_
    refine g_yes rfl rfl ?_
    refine g_pure (p_move rfl) rfl ?_
    refine g_yes rfl rfl ?_
    refine g_pure (p_eqlT rfl rfl rfl) rfl ?_
    first | refine g_pure (p_pickt rfl rfl) rfl ?_ | refine g_pure (p_pickf rfl rfl) rfl ?_
    refine g_pure (p_move rfl) rfl ?_
    refine g_yes rfl rfl ?_
    refine g_call (Hin := []) (Hr := ?hr4) (R := ?rr4) rfl rfl rfl ?hin4 ?hc4 ?hk4
    case hin4 => repeat' (first | exact Cover.nil | exact Take.here | apply Cover.cons | apply Take.there)
    case hc4 => intro ρ' hρ hR; exact vawake_ok (hk.mono hρ)
    rintro _ _ ⟨rfl, rfl⟩
    first | refine g_pure (p_pickt rfl rfl) rfl ?_ | refine g_pure (p_pickf rfl rfl) rfl ?_
    refine g_pure (p_assign rfl) rfl ?_
    refine g_nil ?_
    refine g_qt ?_
    refine g_ret ?_
    exact g_post (Ho := []) (rs := [.tmp 4]) rfl (.tmp rfl .nil) rfl .nil
theorem vlifts_ok {ρ : Nat → Obj → Prop} (hk : LibK ρ) (op : Int) {aa : Option Addr} {ac : Nat} {l : List Ce} (ha : RSl ρ 2 aa l.length (l.flatMap encC)) :
    Con Tryd.prog ρ 8 #[.int .i64 op, .slice aa l.length ac] [] (fun v _ => v = .bool true) := by
  refine con_intro Tryd.func8 Tryd.call8 rfl Tryd.ntmps8 rfl (L := [(0, _), (1, _)]) rfl fun w hh => ?_
  refine g_seq ?_
  refine g_region ?_
  refine g_pure (p_assign rfl) rfl ?_
  refine g_nil ?_
  refine g_qt ?_
  refine g_seq ?_
  refine g_seq ?_
  refine g_region ?_
  refine g_pure (p_move rfl) rfl ?_
  refine g_pure (p_len (by rfl) rfl) rfl ?_
  refine g_pure (p_gtr rfl rfl) rfl ?_
  refine g_nil ?_
  refine g_qt ?_
  refine g_ifd rfl (fun h => ?_) (fun h => ?_)
  · refine g_seq ?_
    refine g_region ?_
    refine g_call (Hin := []) (Hr := ?hr5) (R := ?rr5) rfl rfl rfl ?hin5 ?hc5 ?hk5
    case hin5 => repeat' (first | exact Cover.nil | exact Take.here | apply Cover.cons | apply Take.there)
    case hc5 => intro ρ' hρ hR; exact vawake_ok (hk.mono hρ)
    rintro _ _ ⟨rfl, rfl⟩
    refine g_pure (p_assign rfl) rfl ?_
    refine g_nil ?_
    refine g_qt ?_
    refine g_ret ?_
    refine g_qt_ret ?_
    exact g_post (Ho := []) (rs := [.tmp 4]) rfl (.tmp rfl .nil) rfl .nil
  · refine g_skip ?_
    refine g_qt ?_
    refine g_seq ?_
    refine g_region ?_
    refine g_pure (p_move rfl) rfl ?_
    refine g_pure (p_move rfl) rfl ?_
    refine g_call (Hin := []) (Hr := ?hr6) (R := ?rr6) rfl rfl rfl ?hin6 ?hc6 ?hk6
    case hin6 => repeat' (first | exact Cover.nil | exact Take.here | apply Cover.cons | apply Take.there)
    case hc6 => intro ρ' hρ hR; exact lift_ok op (ha.mono hρ) (by omega)
    rintro _ _ ⟨rfl, rfl⟩
    refine g_pure (p_move rfl) rfl ?_
    refine g_pure (p_move rfl) rfl ?_
    refine g_call (Hin := []) (Hr := ?hr7) (R := ?rr7) rfl rfl rfl ?hin7 ?hc7 ?hk7
    case hin7 => repeat' (first | exact Cover.nil | exact Take.here | apply Cover.cons | apply Take.there)
    case hc7 => intro ρ' hρ hR; exact dlift_ok op (ha.mono hρ) (by omega)
    rintro _ _ ⟨rfl, rfl⟩
    unfold aggC
    refine g_pure (p_eqagg (eqCeT 9998 _ _) (by kernel_rfl) rfl rfl) rfl ?_
    refine g_pure (p_move rfl) rfl ?_
    refine g_yes rfl rfl ?_
    refine g_call (Hin := []) (Hr := ?hr8) (R := ?rr8) rfl rfl rfl ?hin8 ?hc8 ?hk8
    case hin8 => repeat' (first | exact Cover.nil | exact Take.here | apply Cover.cons | apply Take.there)
    case hc8 => intro ρ' hρ hR; exact vawake_ok (hk.mono hρ)
    rintro _ _ ⟨rfl, rfl⟩
    first | refine g_pure (p_pickt rfl rfl) rfl ?_ | refine g_pure (p_pickf rfl rfl) rfl ?_
    refine g_pure (p_assign rfl) rfl ?_
    refine g_nil ?_
    refine g_qt ?_
    refine g_ret ?_
    exact g_post (Ho := []) (rs := [.tmp 4]) rfl (.tmp rfl .nil) rfl .nil
/-- reading a row of cells -/
theorem rd_ces {H : Type} {enc : TypeId × Value → H} {W : World} {cs : List Value} (h : Rdx enc Tryd.prog W 37 cs) :
    ∃ (a : Option Addr) (cap : Nat) (l : List Ce), cs = [.slice a l.length cap] ∧ l.length ≤ cap ∧ cap ≤ maxLen ∧ (∀ x ∈ l, C64 x) ∧ RSl (Old W) 2 a l.length (l.flatMap encC) := by
  refine rd_list (fun x : Ce => C64 x) encC Tryd.underlying37 (size := 2) (by kernel_rfl) (by decide) (fun c _ hc => ?_) h
  obtain ⟨hl, hf⟩ := rd_struct Tryd.underlying39 hc
  have h0 := hf 0 _ rfl
  have h1 := hf 1 _ rfl
  have hl2 : c.length = 2 := hl
  match c, hl2 with
  | [u, v], _ =>
    have h0' : Rdx enc Tryd.prog W 3 [u] := h0
    have h1' : Rdx enc Tryd.prog W 3 [v] := h1
    obtain ⟨x, e, wx⟩ := rd_int Tryd.underlying3 h0'
    cases e
    obtain ⟨y, e, wy⟩ := rd_int Tryd.underlying3 h1'
    cases e
    exact ⟨(x, y), rfl, wf_i64 wx, wf_i64 wy⟩
end Go.Proofs.YtkbofpcnhjopaaaDoor
