/- Chapter 40: intervals: the operators. Conditions: none. -/
import Derived.Test.YtlcipnligbjclabF3
namespace Go.Z.Val
set_option linter.unusedVariables false
set_option linter.unusedSimpArgs false
set_option linter.unusedSectionVars false
open Go Go.Z
theorem most_in {s : Sp} (h : R16 s) : 0 ≤ mostS s ∧ mostS s ≤ 32768 := by unfold R16 at h; unfold mostS; omega
theorem mul4 (a1 a2 b1 b2 : Int) : mulS (a1, a2) (b1, b2) = wrapS (min (min (min (a1 * b1) (a1 * b2)) (a2 * b1)) (a2 * b2)) (max (max (max (a1 * b1) (a1 * b2)) (a2 * b1)) (a2 * b2)) := by
  unfold mulS; dsimp only; congr 1 <;> omega
/-- what the operands of an operator are -/
def Opn (op : Int) (a b : Sp) : Prop := (1 ≤ op ∧ op ≤ 16) ∧ ((op = 11 ∨ op = 12) ∨ R16 a ∧ R16 b)
theorem prods {a1 a2 b1 b2 op : Int} (h : (op = 11 ∨ op = 12) ∨ R16 (a1, a2) ∧ R16 (b1, b2)) : (op = 11 ∨ op = 12) ∨ ((-1073741824 ≤ a1 * b1 ∧ a1 * b1 ≤ 1073741824) ∧ (-1073741824 ≤ a1 * b2 ∧ a1 * b2 ≤ 1073741824) ∧ (-1073741824 ≤ a2 * b1 ∧ a2 * b1 ≤ 1073741824) ∧ (-1073741824 ≤ a2 * b2 ∧ a2 * b2 ≤ 1073741824)) := by
  rcases h with h | ⟨h1, h2⟩
  · exact .inl h
  · have h1' : a1 ≤ a2 ∧ -32768 ≤ a1 ∧ a2 ≤ 32767 := h1
    have h2' : b1 ≤ b2 ∧ -32768 ≤ b1 ∧ b2 ≤ 32767 := h2
    exact .inr ⟨mul_in (by omega) (by omega), mul_in (by omega) (by omega), mul_in (by omega) (by omega), mul_in (by omega) (by omega)⟩
end Go.Z.Val
namespace Go.Proofs.Ytlcipnligbjclab
open Go Go.Z Go.Z.Val

theorem quot_ok {ρ : Nat → Obj → Prop} {a1 a2 b1 b2 : Int} (ha : R16 (a1, a2)) (hb : R16 (b1, b2)) : Con Try.prog ρ 36 #[.agg #[.int .i64 a1, .int .i64 a2], .agg #[.int .i64 b1, .int .i64 b2]] [] (SpP (quotS (a1, a2) (b1, b2))) := by
  have ha' : a1 ≤ a2 ∧ -32768 ≤ a1 ∧ a2 ≤ 32767 := ha
  have hb' : b1 ≤ b2 ∧ -32768 ≤ b1 ∧ b2 ≤ 32767 := hb
  have hm := most_in ha
  refine con_intro Try.func36 Try.call36 rfl Try.ntmps36 rfl (L := [(0, _), (1, _)]) rfl fun w hh => ?_
  refine g_seq ?_
  refine g_region ?_
  refine g_eff (e_box rfl (by rfl)) rfl (fun _ _ => ?_)
  rintro ⟨b2, rfl, rfl⟩
  refine g_eff (e_box rfl (by rfl)) rfl (fun _ _ => ?_)
  rintro ⟨b3, rfl, rfl⟩
  refine g_eff (e_alloc (by rfl)) rfl (fun _ _ => ?_)
  rintro ⟨b4, rfl, rfl⟩
  refine g_nil ?_
  refine g_qt ?_
  refine g_seq ?_
  refine g_region ?_
  first | refine g_pure (p_loadO (by rfl) rfl (by first | (apply Has.own; (repeat' (first | exact Take.here | apply Take.there)); done) | exact Has.ro (by assumption)) (by rfl)) rfl ?_ | refine g_pure (p_loadN (by rfl) rfl (by first | (apply Has.own; (repeat' (first | exact Take.here | apply Take.there)); done) | exact Has.ro (by assumption)) (by first | rfl | assumption)) rfl ?_
  refine g_call (Hin := []) (Hr := ?hr1) (R := ?rr1) rfl rfl rfl ?hin1 ?hc1 ?hk1
  case hin1 => repeat' (first | exact Cover.nil | exact Take.here | apply Cover.cons | apply Take.there)
  case hc1 => intro ρ' hρ hR; exact great_ok ha
  rintro _ _ ⟨rfl, rfl⟩
  refine g_pure (p_assign rfl) rfl ?_
  refine g_nil ?_
  refine g_qt ?_
  refine g_seq ?_
  refine g_block ?_
  refine g_seq ?_
  refine g_region ?_
  refine g_pure (p_fieldAddr rfl) rfl ?_
  refine g_pure (p_fieldAddr rfl) rfl ?_
  refine g_pure (p_load (by rfl) rfl (by first | (apply Has.own; (repeat' (first | exact Take.here | apply Take.there)); done) | exact Has.ro (by assumption)) (by first | rfl | assumption)) rfl ?_
  refine g_pure (p_geq rfl rfl) rfl ?_
  refine g_pure (p_move rfl) rfl ?_
  refine g_splitd rfl rfl (fun h1 => ?_) (fun h1 => ?_)
  · refine g_yes rfl rfl ?_
    refine g_pure (p_fieldAddr rfl) rfl ?_
    refine g_yes rfl rfl ?_
    refine g_pure (p_fieldAddr rfl) rfl ?_
    refine g_yes rfl rfl ?_
    refine g_pure (p_load (by rfl) rfl (by first | (apply Has.own; (repeat' (first | exact Take.here | apply Take.there)); done) | exact Has.ro (by assumption)) (by first | rfl | assumption)) rfl ?_
    refine g_yes rfl rfl ?_
    refine g_pure (p_geq rfl rfl) rfl ?_
    first | refine g_pure (p_pickt rfl rfl) rfl ?_ | refine g_pure (p_pickf rfl rfl) rfl ?_
    refine g_pure (p_assign rfl) rfl ?_
    refine g_nil ?_
    refine g_qt ?_
    refine g_ifdL rfl (fun h2 => ?_) (fun h2 => ?_)
    · refine g_seq ?_
      refine m_begin0 (.fl 0 0 (.fl 1 0 (.fl 2 1 (.fl 3 0 (.fl 4 0 (.fl 5 1 (.fl 6 0 (.fl 7 0 (.fl 8 0 (.fl 9 1 (.fl 10 0 (.fl 11 0 (.fl 12 1 (.fl 13 0 (.ef 14 (.ef 15 .done)))))))))))))))) (by kernel_rfl) (by kernel_rfl) ?_
      refine m_float0 rfl (fun _ _ => p_fieldAddr rfl) rfl ?_
      refine m_float0 rfl (fun _ _ => p_fieldAddr rfl) rfl ?_
      refine m_float rfl (p_load (by rfl) rfl (by first | (apply Has.own; (repeat' (first | exact Take.here | apply Take.there)); done) | exact Has.ro (by assumption)) (by first | rfl | assumption)) rfl ?_
      refine m_float0 rfl (fun _ _ => p_fieldAddr rfl) rfl ?_
      refine m_float0 rfl (fun _ _ => p_fieldAddr rfl) rfl ?_
      refine m_float rfl (p_load (by rfl) rfl (by first | (apply Has.own; (repeat' (first | exact Take.here | apply Take.there)); done) | exact Has.ro (by assumption)) (by first | rfl | assumption)) rfl ?_
      refine m_float0 rfl (fun _ _ => p_quoi rfl rfl (by omega) (by omega)) rfl ?_
      refine m_float0 rfl (fun _ _ => p_fieldAddr rfl) rfl ?_
      refine m_float0 rfl (fun _ _ => p_fieldAddr rfl) rfl ?_
      refine m_float rfl (p_load (by rfl) rfl (by first | (apply Has.own; (repeat' (first | exact Take.here | apply Take.there)); done) | exact Has.ro (by assumption)) (by first | rfl | assumption)) rfl ?_
      refine m_float0 rfl (fun _ _ => p_fieldAddr rfl) rfl ?_
      refine m_float0 rfl (fun _ _ => p_fieldAddr rfl) rfl ?_
      refine m_float rfl (p_load (by rfl) rfl (by first | (apply Has.own; (repeat' (first | exact Take.here | apply Take.there)); done) | exact Has.ro (by assumption)) (by first | rfl | assumption)) rfl ?_
      refine m_float0 rfl (fun _ _ => p_quoi rfl rfl (by omega) (by omega)) rfl ?_
      refine m_call (Hin := []) (Hr := ?hr2) (R := ?rr2) rfl wantedN rfl rfl rfl ?hin2 ?hc2 ?hk2
      case hin2 => repeat' (first | exact Cover.nil | exact Take.here | apply Cover.cons | apply Take.there)
      case hc2 => intro ρ' hρ hR; exact of_ok _ _
      rintro _ _ ⟨u1, u2, rfl, hu, rfl⟩
      refine ⟨.none (by kernel_rfl), ?_⟩
      first | refine m_eff0 rfl (e_storeO rfl rfl (by rfl) (by rfl) (by rfl) (by repeat' (first | exact Take.here | apply Take.there)) (by rfl)) (fun _ _ => ?_) | refine m_eff0 rfl (e_storeN rfl rfl (by rfl) (by rfl) (by rfl) (by repeat' (first | exact Take.here | apply Take.there)) (by simp)) (fun _ _ => ?_)
      rintro rfl
      refine ⟨.none (by kernel_rfl), ?_⟩
      refine m_nil ?_
      refine g_qt ?_
      refine g_ret ?_
      refine g_qb_ret ?_
      refine g_qt_ret ?_
      exact g_post (rs := [.cell 4 26]) rfl (Res.cellN (by rfl) rfl (Has.own (by repeat' (first | exact Take.here | apply Take.there))) (by rfl) .nil) ⟨_, _, rfl, by unfold quotS; simp only [hasS_iff]; first | (rw [if_pos (by omega)]; exact hu) | (rw [if_neg (by omega), if_pos (by omega)]; exact hu) | (rw [if_neg (by omega), if_neg (by omega)]; exact hu), rfl⟩ (by repeat' (first | exact Cover.nil | exact Take.here | apply Cover.cons | apply Take.there))
    · refine g_seq ?_
      refine g_region ?_
      refine g_pure (p_fieldAddr rfl) rfl ?_
      refine g_pure (p_fieldAddr rfl) rfl ?_
      refine g_pure (p_load (by rfl) rfl (by first | (apply Has.own; (repeat' (first | exact Take.here | apply Take.there)); done) | exact Has.ro (by assumption)) (by first | rfl | assumption)) rfl ?_
      refine g_pure (p_eql rfl rfl) rfl ?_
      refine g_pure (p_move rfl) rfl ?_
      refine g_splitd rfl rfl (fun h3 => ?_) (fun h3 => ?_)
      · refine g_yes rfl rfl ?_
        refine g_pure (p_fieldAddr rfl) rfl ?_
        refine g_yes rfl rfl ?_
        first | refine g_pure (p_loadO (by rfl) rfl (by first | (apply Has.own; (repeat' (first | exact Take.here | apply Take.there)); done) | exact Has.ro (by assumption)) (by rfl)) rfl ?_ | refine g_pure (p_loadN (by rfl) rfl (by first | (apply Has.own; (repeat' (first | exact Take.here | apply Take.there)); done) | exact Has.ro (by assumption)) (by first | rfl | assumption)) rfl ?_
        refine g_yes rfl rfl ?_
        refine g_call (Hin := []) (Hr := ?hr3) (R := ?rr3) rfl rfl rfl ?hin3 ?hc3 ?hk3
        case hin3 => repeat' (first | exact Cover.nil | exact Take.here | apply Cover.cons | apply Take.there)
        case hc3 => intro ρ' hρ hR; exact has_ok _ _ _
        rintro _ _ ⟨rfl, rfl⟩
        first | refine g_pure (p_pickt rfl rfl) rfl ?_ | refine g_pure (p_pickf rfl rfl) rfl ?_
        refine g_pure (p_assign rfl) rfl ?_
        refine g_nil ?_
        refine g_qt ?_
        refine g_ifdL rfl (fun h4 => ?_) (fun h4 => ?_)
        · refine g_seq ?_
          refine g_region ?_
          refine g_call (Hin := []) (Hr := ?hr4) (R := ?rr4) rfl rfl rfl ?hin4 ?hc4 ?hk4
          case hin4 => repeat' (first | exact Cover.nil | exact Take.here | apply Cover.cons | apply Take.there)
          case hc4 => intro ρ' hρ hR; exact sfull_ok
          rintro _ _ ⟨u1, u2, rfl, hu, rfl⟩
          first | refine g_eff0 (e_storeO rfl rfl (by rfl) (by rfl) (by rfl) (by repeat' (first | exact Take.here | apply Take.there)) (by rfl)) (fun _ _ => ?_) | refine g_eff0 (e_storeN rfl rfl (by rfl) (by rfl) (by rfl) (by repeat' (first | exact Take.here | apply Take.there)) (by simp)) (fun _ _ => ?_)
          rintro rfl
          refine g_nil ?_
          refine g_qt ?_
          refine g_ret ?_
          refine g_qb_ret ?_
          refine g_qt_ret ?_
          exact g_post (rs := [.cell 4 26]) rfl (Res.cellN (by rfl) rfl (Has.own (by repeat' (first | exact Take.here | apply Take.there))) (by rfl) .nil) ⟨_, _, rfl, by unfold quotS; simp only [hasS_iff]; first | (rw [if_pos (by omega)]; exact hu) | (rw [if_neg (by omega), if_pos (by omega)]; exact hu) | (rw [if_neg (by omega), if_neg (by omega)]; exact hu), rfl⟩ (by repeat' (first | exact Cover.nil | exact Take.here | apply Cover.cons | apply Take.there))
        · refine g_skip ?_
          refine g_qb ?_
          refine g_qt ?_
          refine g_seq ?_
          refine g_region ?_
          refine g_pure (p_move rfl) rfl ?_
          first | refine g_pure (p_negi rfl (by omega)) rfl ?_ | refine g_pure (p_neg rfl) rfl ?_
          refine g_pure (p_move rfl) rfl ?_
          refine g_pure (p_min rfl rfl) rfl ?_
          refine g_call (Hin := []) (Hr := ?hr5) (R := ?rr5) rfl rfl rfl ?hin5 ?hc5 ?hk5
          case hin5 => repeat' (first | exact Cover.nil | exact Take.here | apply Cover.cons | apply Take.there)
          case hc5 => intro ρ' hρ hR; exact of_ok _ _
          rintro _ _ ⟨u1, u2, rfl, hu, rfl⟩
          first | refine g_eff0 (e_storeO rfl rfl (by rfl) (by rfl) (by rfl) (by repeat' (first | exact Take.here | apply Take.there)) (by rfl)) (fun _ _ => ?_) | refine g_eff0 (e_storeN rfl rfl (by rfl) (by rfl) (by rfl) (by repeat' (first | exact Take.here | apply Take.there)) (by simp)) (fun _ _ => ?_)
          rintro rfl
          refine g_nil ?_
          refine g_qt ?_
          refine g_ret ?_
          exact g_post (rs := [.cell 4 26]) rfl (Res.cellN (by rfl) rfl (Has.own (by repeat' (first | exact Take.here | apply Take.there))) (by rfl) .nil) ⟨_, _, rfl, by unfold quotS; simp only [hasS_iff]; first | (rw [if_pos (by omega)]; exact hu) | (rw [if_neg (by omega), if_pos (by omega)]; exact hu) | (rw [if_neg (by omega), if_neg (by omega)]; exact hu), rfl⟩ (by repeat' (first | exact Cover.nil | exact Take.here | apply Cover.cons | apply Take.there))
      · refine g_no rfl rfl rfl rfl ?_
        refine g_no rfl rfl rfl rfl ?_
        refine g_no rfl rfl rfl rfl ?_
        first | refine g_pure (p_pickt rfl rfl) rfl ?_ | refine g_pure (p_pickf rfl rfl) rfl ?_
        refine g_pure (p_assign rfl) rfl ?_
        refine g_nil ?_
        refine g_qt ?_
        refine g_iff rfl ?_
        refine g_skip ?_
        refine g_qb ?_
        refine g_qt ?_
        refine g_seq ?_
        refine g_region ?_
        refine g_pure (p_move rfl) rfl ?_
        first | refine g_pure (p_negi rfl (by omega)) rfl ?_ | refine g_pure (p_neg rfl) rfl ?_
        refine g_pure (p_move rfl) rfl ?_
        refine g_pure (p_min rfl rfl) rfl ?_
        refine g_call (Hin := []) (Hr := ?hr6) (R := ?rr6) rfl rfl rfl ?hin6 ?hc6 ?hk6
        case hin6 => repeat' (first | exact Cover.nil | exact Take.here | apply Cover.cons | apply Take.there)
        case hc6 => intro ρ' hρ hR; exact of_ok _ _
        rintro _ _ ⟨u1, u2, rfl, hu, rfl⟩
        first | refine g_eff0 (e_storeO rfl rfl (by rfl) (by rfl) (by rfl) (by repeat' (first | exact Take.here | apply Take.there)) (by rfl)) (fun _ _ => ?_) | refine g_eff0 (e_storeN rfl rfl (by rfl) (by rfl) (by rfl) (by repeat' (first | exact Take.here | apply Take.there)) (by simp)) (fun _ _ => ?_)
        rintro rfl
        refine g_nil ?_
        refine g_qt ?_
        refine g_ret ?_
        exact g_post (rs := [.cell 4 26]) rfl (Res.cellN (by rfl) rfl (Has.own (by repeat' (first | exact Take.here | apply Take.there))) (by rfl) .nil) ⟨_, _, rfl, by unfold quotS; simp only [hasS_iff]; first | (rw [if_pos (by omega)]; exact hu) | (rw [if_neg (by omega), if_pos (by omega)]; exact hu) | (rw [if_neg (by omega), if_neg (by omega)]; exact hu), rfl⟩ (by repeat' (first | exact Cover.nil | exact Take.here | apply Cover.cons | apply Take.there))
  · refine g_no rfl rfl rfl rfl ?_
    refine g_no rfl rfl rfl rfl ?_
    refine g_no rfl rfl rfl rfl ?_
    refine g_no rfl rfl rfl rfl ?_
    first | refine g_pure (p_pickt rfl rfl) rfl ?_ | refine g_pure (p_pickf rfl rfl) rfl ?_
    refine g_pure (p_assign rfl) rfl ?_
    refine g_nil ?_
    refine g_qt ?_
    refine g_iff rfl ?_
    refine g_seq ?_
    refine g_region ?_
    refine g_pure (p_fieldAddr rfl) rfl ?_
    refine g_pure (p_fieldAddr rfl) rfl ?_
    refine g_pure (p_load (by rfl) rfl (by first | (apply Has.own; (repeat' (first | exact Take.here | apply Take.there)); done) | exact Has.ro (by assumption)) (by first | rfl | assumption)) rfl ?_
    refine g_pure (p_eql rfl rfl) rfl ?_
    refine g_pure (p_move rfl) rfl ?_
    refine g_splitd rfl rfl (fun h7 => ?_) (fun h7 => ?_)
    · refine g_yes rfl rfl ?_
      refine g_pure (p_fieldAddr rfl) rfl ?_
      refine g_yes rfl rfl ?_
      first | refine g_pure (p_loadO (by rfl) rfl (by first | (apply Has.own; (repeat' (first | exact Take.here | apply Take.there)); done) | exact Has.ro (by assumption)) (by rfl)) rfl ?_ | refine g_pure (p_loadN (by rfl) rfl (by first | (apply Has.own; (repeat' (first | exact Take.here | apply Take.there)); done) | exact Has.ro (by assumption)) (by first | rfl | assumption)) rfl ?_
      refine g_yes rfl rfl ?_
      refine g_call (Hin := []) (Hr := ?hr7) (R := ?rr7) rfl rfl rfl ?hin7 ?hc7 ?hk7
      case hin7 => repeat' (first | exact Cover.nil | exact Take.here | apply Cover.cons | apply Take.there)
      case hc7 => intro ρ' hρ hR; exact has_ok _ _ _
      rintro _ _ ⟨rfl, rfl⟩
      first | refine g_pure (p_pickt rfl rfl) rfl ?_ | refine g_pure (p_pickf rfl rfl) rfl ?_
      refine g_pure (p_assign rfl) rfl ?_
      refine g_nil ?_
      refine g_qt ?_
      refine g_ifdL rfl (fun h8 => ?_) (fun h8 => ?_)
      · refine g_seq ?_
        refine g_region ?_
        refine g_call (Hin := []) (Hr := ?hr8) (R := ?rr8) rfl rfl rfl ?hin8 ?hc8 ?hk8
        case hin8 => repeat' (first | exact Cover.nil | exact Take.here | apply Cover.cons | apply Take.there)
        case hc8 => intro ρ' hρ hR; exact sfull_ok
        rintro _ _ ⟨u1, u2, rfl, hu, rfl⟩
        first | refine g_eff0 (e_storeO rfl rfl (by rfl) (by rfl) (by rfl) (by repeat' (first | exact Take.here | apply Take.there)) (by rfl)) (fun _ _ => ?_) | refine g_eff0 (e_storeN rfl rfl (by rfl) (by rfl) (by rfl) (by repeat' (first | exact Take.here | apply Take.there)) (by simp)) (fun _ _ => ?_)
        rintro rfl
        refine g_nil ?_
        refine g_qt ?_
        refine g_ret ?_
        refine g_qb_ret ?_
        refine g_qt_ret ?_
        exact g_post (rs := [.cell 4 26]) rfl (Res.cellN (by rfl) rfl (Has.own (by repeat' (first | exact Take.here | apply Take.there))) (by rfl) .nil) ⟨_, _, rfl, by unfold quotS; simp only [hasS_iff]; first | (rw [if_pos (by omega)]; exact hu) | (rw [if_neg (by omega), if_pos (by omega)]; exact hu) | (rw [if_neg (by omega), if_neg (by omega)]; exact hu), rfl⟩ (by repeat' (first | exact Cover.nil | exact Take.here | apply Cover.cons | apply Take.there))
      · refine g_skip ?_
        refine g_qb ?_
        refine g_qt ?_
        refine g_seq ?_
        refine g_region ?_
        refine g_pure (p_move rfl) rfl ?_
        first | refine g_pure (p_negi rfl (by omega)) rfl ?_ | refine g_pure (p_neg rfl) rfl ?_
        refine g_pure (p_move rfl) rfl ?_
        refine g_pure (p_min rfl rfl) rfl ?_
        refine g_call (Hin := []) (Hr := ?hr9) (R := ?rr9) rfl rfl rfl ?hin9 ?hc9 ?hk9
        case hin9 => repeat' (first | exact Cover.nil | exact Take.here | apply Cover.cons | apply Take.there)
        case hc9 => intro ρ' hρ hR; exact of_ok _ _
        rintro _ _ ⟨u1, u2, rfl, hu, rfl⟩
        first | refine g_eff0 (e_storeO rfl rfl (by rfl) (by rfl) (by rfl) (by repeat' (first | exact Take.here | apply Take.there)) (by rfl)) (fun _ _ => ?_) | refine g_eff0 (e_storeN rfl rfl (by rfl) (by rfl) (by rfl) (by repeat' (first | exact Take.here | apply Take.there)) (by simp)) (fun _ _ => ?_)
        rintro rfl
        refine g_nil ?_
        refine g_qt ?_
        refine g_ret ?_
        exact g_post (rs := [.cell 4 26]) rfl (Res.cellN (by rfl) rfl (Has.own (by repeat' (first | exact Take.here | apply Take.there))) (by rfl) .nil) ⟨_, _, rfl, by unfold quotS; simp only [hasS_iff]; first | (rw [if_pos (by omega)]; exact hu) | (rw [if_neg (by omega), if_pos (by omega)]; exact hu) | (rw [if_neg (by omega), if_neg (by omega)]; exact hu), rfl⟩ (by repeat' (first | exact Cover.nil | exact Take.here | apply Cover.cons | apply Take.there))
    · refine g_no rfl rfl rfl rfl ?_
      refine g_no rfl rfl rfl rfl ?_
      refine g_no rfl rfl rfl rfl ?_
      first | refine g_pure (p_pickt rfl rfl) rfl ?_ | refine g_pure (p_pickf rfl rfl) rfl ?_
      refine g_pure (p_assign rfl) rfl ?_
      refine g_nil ?_
      refine g_qt ?_
      refine g_iff rfl ?_
      refine g_skip ?_
      refine g_qb ?_
      refine g_qt ?_
      refine g_seq ?_
      refine g_region ?_
      refine g_pure (p_move rfl) rfl ?_
      first | refine g_pure (p_negi rfl (by omega)) rfl ?_ | refine g_pure (p_neg rfl) rfl ?_
      refine g_pure (p_move rfl) rfl ?_
      refine g_pure (p_min rfl rfl) rfl ?_
      refine g_call (Hin := []) (Hr := ?hr10) (R := ?rr10) rfl rfl rfl ?hin10 ?hc10 ?hk10
      case hin10 => repeat' (first | exact Cover.nil | exact Take.here | apply Cover.cons | apply Take.there)
      case hc10 => intro ρ' hρ hR; exact of_ok _ _
      rintro _ _ ⟨u1, u2, rfl, hu, rfl⟩
      first | refine g_eff0 (e_storeO rfl rfl (by rfl) (by rfl) (by rfl) (by repeat' (first | exact Take.here | apply Take.there)) (by rfl)) (fun _ _ => ?_) | refine g_eff0 (e_storeN rfl rfl (by rfl) (by rfl) (by rfl) (by repeat' (first | exact Take.here | apply Take.there)) (by simp)) (fun _ _ => ?_)
      rintro rfl
      refine g_nil ?_
      refine g_qt ?_
      refine g_ret ?_
      exact g_post (rs := [.cell 4 26]) rfl (Res.cellN (by rfl) rfl (Has.own (by repeat' (first | exact Take.here | apply Take.there))) (by rfl) .nil) ⟨_, _, rfl, by unfold quotS; simp only [hasS_iff]; first | (rw [if_pos (by omega)]; exact hu) | (rw [if_neg (by omega), if_pos (by omega)]; exact hu) | (rw [if_neg (by omega), if_neg (by omega)]; exact hu), rfl⟩ (by repeat' (first | exact Cover.nil | exact Take.here | apply Cover.cons | apply Take.there))
theorem srest_ok {ρ : Nat → Obj → Prop} {a1 a2 b1 b2 : Int} (ha : R16 (a1, a2)) (hb : R16 (b1, b2)) : Con Try.prog ρ 37 #[.agg #[.int .i64 a1, .int .i64 a2], .agg #[.int .i64 b1, .int .i64 b2]] [] (SpP (restS (a1, a2) (b1, b2))) := by
  have ha' : a1 ≤ a2 ∧ -32768 ≤ a1 ∧ a2 ≤ 32767 := ha
  have hb' : b1 ≤ b2 ∧ -32768 ≤ b1 ∧ b2 ≤ 32767 := hb
  have hm := most_in hb
  refine con_intro Try.func37 Try.call37 rfl Try.ntmps37 rfl (L := [(0, _), (1, _)]) rfl fun w hh => ?_
  refine g_seq ?_
  refine g_region ?_
  refine g_eff (e_box rfl (by rfl)) rfl (fun _ _ => ?_)
  rintro ⟨b2, rfl, rfl⟩
  refine g_eff (e_box rfl (by rfl)) rfl (fun _ _ => ?_)
  rintro ⟨b3, rfl, rfl⟩
  refine g_eff (e_alloc (by rfl)) rfl (fun _ _ => ?_)
  rintro ⟨b4, rfl, rfl⟩
  refine g_nil ?_
  refine g_qt ?_
  refine g_seq ?_
  refine g_region ?_
  first | refine g_pure (p_loadO (by rfl) rfl (by first | (apply Has.own; (repeat' (first | exact Take.here | apply Take.there)); done) | exact Has.ro (by assumption)) (by rfl)) rfl ?_ | refine g_pure (p_loadN (by rfl) rfl (by first | (apply Has.own; (repeat' (first | exact Take.here | apply Take.there)); done) | exact Has.ro (by assumption)) (by first | rfl | assumption)) rfl ?_
  refine g_call (Hin := []) (Hr := ?hr11) (R := ?rr11) rfl rfl rfl ?hin11 ?hc11 ?hk11
  case hin11 => repeat' (first | exact Cover.nil | exact Take.here | apply Cover.cons | apply Take.there)
  case hc11 => intro ρ' hρ hR; exact great_ok hb
  rintro _ _ ⟨rfl, rfl⟩
  first | refine g_pure (p_subi rfl rfl (by omega)) rfl ?_ | refine g_pure (p_sub rfl rfl) rfl ?_
  refine g_pure (p_assign rfl) rfl ?_
  refine g_nil ?_
  refine g_qt ?_
  refine g_seq ?_
  refine g_seq ?_
  refine g_region ?_
  refine g_pure (p_fieldAddr rfl) rfl ?_
  first | refine g_pure (p_loadO (by rfl) rfl (by first | (apply Has.own; (repeat' (first | exact Take.here | apply Take.there)); done) | exact Has.ro (by assumption)) (by rfl)) rfl ?_ | refine g_pure (p_loadN (by rfl) rfl (by first | (apply Has.own; (repeat' (first | exact Take.here | apply Take.there)); done) | exact Has.ro (by assumption)) (by first | rfl | assumption)) rfl ?_
  refine g_call (Hin := []) (Hr := ?hr12) (R := ?rr12) rfl rfl rfl ?hin12 ?hc12 ?hk12
  case hin12 => repeat' (first | exact Cover.nil | exact Take.here | apply Cover.cons | apply Take.there)
  case hc12 => intro ρ' hρ hR; exact has_ok _ _ _
  rintro _ _ ⟨rfl, rfl⟩
  refine g_nil ?_
  refine g_qt ?_
  refine g_ifdL rfl (fun h1 => ?_) (fun h1 => ?_)
  · refine g_region ?_
    refine g_pure (p_assign rfl) rfl ?_
    refine g_nil ?_
    refine g_qt ?_
    refine g_seq ?_
    refine g_region ?_
    refine g_pure (p_assign rfl) rfl ?_
    refine g_pure (p_assign rfl) rfl ?_
    refine g_nil ?_
    refine g_qt ?_
    refine g_seq ?_
    refine g_seq ?_
    refine g_region ?_
    refine g_pure (p_fieldAddr rfl) rfl ?_
    refine g_pure (p_fieldAddr rfl) rfl ?_
    refine g_pure (p_load (by rfl) rfl (by first | (apply Has.own; (repeat' (first | exact Take.here | apply Take.there)); done) | exact Has.ro (by assumption)) (by first | rfl | assumption)) rfl ?_
    refine g_pure (p_lss rfl rfl) rfl ?_
    refine g_nil ?_
    refine g_qt ?_
    refine g_ifdL rfl (fun h2 => ?_) (fun h2 => ?_)
    · refine g_region ?_
      refine g_pure (p_fieldAddr rfl) rfl ?_
      refine g_pure (p_fieldAddr rfl) rfl ?_
      refine g_pure (p_load (by rfl) rfl (by first | (apply Has.own; (repeat' (first | exact Take.here | apply Take.there)); done) | exact Has.ro (by assumption)) (by first | rfl | assumption)) rfl ?_
      refine g_pure (p_move rfl) rfl ?_
      first | refine g_pure (p_negi rfl (by omega)) rfl ?_ | refine g_pure (p_neg rfl) rfl ?_
      refine g_pure (p_max rfl rfl) rfl ?_
      refine g_pure (p_assign rfl) rfl ?_
      refine g_nil ?_
      refine g_qt ?_
      refine g_seq ?_
      refine g_seq ?_
      refine g_region ?_
      refine g_pure (p_fieldAddr rfl) rfl ?_
      refine g_pure (p_fieldAddr rfl) rfl ?_
      refine g_pure (p_load (by rfl) rfl (by first | (apply Has.own; (repeat' (first | exact Take.here | apply Take.there)); done) | exact Has.ro (by assumption)) (by first | rfl | assumption)) rfl ?_
      refine g_pure (p_gtr rfl rfl) rfl ?_
      refine g_nil ?_
      refine g_qt ?_
      refine g_ifdL rfl (fun h3 => ?_) (fun h3 => ?_)
      · refine g_region ?_
        refine g_pure (p_fieldAddr rfl) rfl ?_
        refine g_pure (p_fieldAddr rfl) rfl ?_
        refine g_pure (p_load (by rfl) rfl (by first | (apply Has.own; (repeat' (first | exact Take.here | apply Take.there)); done) | exact Has.ro (by assumption)) (by first | rfl | assumption)) rfl ?_
        refine g_pure (p_move rfl) rfl ?_
        refine g_pure (p_min rfl rfl) rfl ?_
        refine g_pure (p_assign rfl) rfl ?_
        refine g_nil ?_
        refine g_qt ?_
        refine g_seq ?_
        refine g_region ?_
        refine g_pure (p_move rfl) rfl ?_
        refine g_pure (p_move rfl) rfl ?_
        refine g_call (Hin := []) (Hr := ?hr13) (R := ?rr13) rfl rfl rfl ?hin13 ?hc13 ?hk13
        case hin13 => repeat' (first | exact Cover.nil | exact Take.here | apply Cover.cons | apply Take.there)
        case hc13 => intro ρ' hρ hR; exact of_ok _ _
        rintro _ _ ⟨u1, u2, rfl, hu, rfl⟩
        first | refine g_eff0 (e_storeO rfl rfl (by rfl) (by rfl) (by rfl) (by repeat' (first | exact Take.here | apply Take.there)) (by rfl)) (fun _ _ => ?_) | refine g_eff0 (e_storeN rfl rfl (by rfl) (by rfl) (by rfl) (by repeat' (first | exact Take.here | apply Take.there)) (by simp)) (fun _ _ => ?_)
        rintro rfl
        refine g_nil ?_
        refine g_qt ?_
        refine g_ret ?_
        exact g_post (rs := [.cell 4 26]) rfl (Res.cellN (by rfl) rfl (Has.own (by repeat' (first | exact Take.here | apply Take.there))) (by rfl) .nil) ⟨_, _, rfl, by unfold restS restM; simp only [hasS_iff]; (repeat' (first | rw [if_pos (by omega)] | rw [if_neg (by omega)])); exact hu, rfl⟩ (by repeat' (first | exact Cover.nil | exact Take.here | apply Cover.cons | apply Take.there))
      · refine g_skip ?_
        refine g_qt ?_
        refine g_seq ?_
        refine g_region ?_
        refine g_pure (p_move rfl) rfl ?_
        refine g_pure (p_move rfl) rfl ?_
        refine g_call (Hin := []) (Hr := ?hr14) (R := ?rr14) rfl rfl rfl ?hin14 ?hc14 ?hk14
        case hin14 => repeat' (first | exact Cover.nil | exact Take.here | apply Cover.cons | apply Take.there)
        case hc14 => intro ρ' hρ hR; exact of_ok _ _
        rintro _ _ ⟨u1, u2, rfl, hu, rfl⟩
        first | refine g_eff0 (e_storeO rfl rfl (by rfl) (by rfl) (by rfl) (by repeat' (first | exact Take.here | apply Take.there)) (by rfl)) (fun _ _ => ?_) | refine g_eff0 (e_storeN rfl rfl (by rfl) (by rfl) (by rfl) (by repeat' (first | exact Take.here | apply Take.there)) (by simp)) (fun _ _ => ?_)
        rintro rfl
        refine g_nil ?_
        refine g_qt ?_
        refine g_ret ?_
        exact g_post (rs := [.cell 4 26]) rfl (Res.cellN (by rfl) rfl (Has.own (by repeat' (first | exact Take.here | apply Take.there))) (by rfl) .nil) ⟨_, _, rfl, by unfold restS restM; simp only [hasS_iff]; (repeat' (first | rw [if_pos (by omega)] | rw [if_neg (by omega)])); exact hu, rfl⟩ (by repeat' (first | exact Cover.nil | exact Take.here | apply Cover.cons | apply Take.there))
    · refine g_skip ?_
      refine g_qt ?_
      refine g_seq ?_
      refine g_seq ?_
      refine g_region ?_
      refine g_pure (p_fieldAddr rfl) rfl ?_
      refine g_pure (p_fieldAddr rfl) rfl ?_
      refine g_pure (p_load (by rfl) rfl (by first | (apply Has.own; (repeat' (first | exact Take.here | apply Take.there)); done) | exact Has.ro (by assumption)) (by first | rfl | assumption)) rfl ?_
      refine g_pure (p_gtr rfl rfl) rfl ?_
      refine g_nil ?_
      refine g_qt ?_
      refine g_ifdL rfl (fun h4 => ?_) (fun h4 => ?_)
      · refine g_region ?_
        refine g_pure (p_fieldAddr rfl) rfl ?_
        refine g_pure (p_fieldAddr rfl) rfl ?_
        refine g_pure (p_load (by rfl) rfl (by first | (apply Has.own; (repeat' (first | exact Take.here | apply Take.there)); done) | exact Has.ro (by assumption)) (by first | rfl | assumption)) rfl ?_
        refine g_pure (p_move rfl) rfl ?_
        refine g_pure (p_min rfl rfl) rfl ?_
        refine g_pure (p_assign rfl) rfl ?_
        refine g_nil ?_
        refine g_qt ?_
        refine g_seq ?_
        refine g_region ?_
        refine g_pure (p_move rfl) rfl ?_
        refine g_pure (p_move rfl) rfl ?_
        refine g_call (Hin := []) (Hr := ?hr15) (R := ?rr15) rfl rfl rfl ?hin15 ?hc15 ?hk15
        case hin15 => repeat' (first | exact Cover.nil | exact Take.here | apply Cover.cons | apply Take.there)
        case hc15 => intro ρ' hρ hR; exact of_ok _ _
        rintro _ _ ⟨u1, u2, rfl, hu, rfl⟩
        first | refine g_eff0 (e_storeO rfl rfl (by rfl) (by rfl) (by rfl) (by repeat' (first | exact Take.here | apply Take.there)) (by rfl)) (fun _ _ => ?_) | refine g_eff0 (e_storeN rfl rfl (by rfl) (by rfl) (by rfl) (by repeat' (first | exact Take.here | apply Take.there)) (by simp)) (fun _ _ => ?_)
        rintro rfl
        refine g_nil ?_
        refine g_qt ?_
        refine g_ret ?_
        exact g_post (rs := [.cell 4 26]) rfl (Res.cellN (by rfl) rfl (Has.own (by repeat' (first | exact Take.here | apply Take.there))) (by rfl) .nil) ⟨_, _, rfl, by unfold restS restM; simp only [hasS_iff]; (repeat' (first | rw [if_pos (by omega)] | rw [if_neg (by omega)])); exact hu, rfl⟩ (by repeat' (first | exact Cover.nil | exact Take.here | apply Cover.cons | apply Take.there))
      · refine g_skip ?_
        refine g_qt ?_
        refine g_seq ?_
        refine g_region ?_
        refine g_pure (p_move rfl) rfl ?_
        refine g_pure (p_move rfl) rfl ?_
        refine g_call (Hin := []) (Hr := ?hr16) (R := ?rr16) rfl rfl rfl ?hin16 ?hc16 ?hk16
        case hin16 => repeat' (first | exact Cover.nil | exact Take.here | apply Cover.cons | apply Take.there)
        case hc16 => intro ρ' hρ hR; exact of_ok _ _
        rintro _ _ ⟨u1, u2, rfl, hu, rfl⟩
        first | refine g_eff0 (e_storeO rfl rfl (by rfl) (by rfl) (by rfl) (by repeat' (first | exact Take.here | apply Take.there)) (by rfl)) (fun _ _ => ?_) | refine g_eff0 (e_storeN rfl rfl (by rfl) (by rfl) (by rfl) (by repeat' (first | exact Take.here | apply Take.there)) (by simp)) (fun _ _ => ?_)
        rintro rfl
        refine g_nil ?_
        refine g_qt ?_
        refine g_ret ?_
        exact g_post (rs := [.cell 4 26]) rfl (Res.cellN (by rfl) rfl (Has.own (by repeat' (first | exact Take.here | apply Take.there))) (by rfl) .nil) ⟨_, _, rfl, by unfold restS restM; simp only [hasS_iff]; (repeat' (first | rw [if_pos (by omega)] | rw [if_neg (by omega)])); exact hu, rfl⟩ (by repeat' (first | exact Cover.nil | exact Take.here | apply Cover.cons | apply Take.there))
  · refine g_skip ?_
    refine g_qt ?_
    refine g_seq ?_
    refine g_region ?_
    refine g_pure (p_assign rfl) rfl ?_
    refine g_pure (p_assign rfl) rfl ?_
    refine g_nil ?_
    refine g_qt ?_
    refine g_seq ?_
    refine g_seq ?_
    refine g_region ?_
    refine g_pure (p_fieldAddr rfl) rfl ?_
    refine g_pure (p_fieldAddr rfl) rfl ?_
    refine g_pure (p_load (by rfl) rfl (by first | (apply Has.own; (repeat' (first | exact Take.here | apply Take.there)); done) | exact Has.ro (by assumption)) (by first | rfl | assumption)) rfl ?_
    refine g_pure (p_lss rfl rfl) rfl ?_
    refine g_nil ?_
    refine g_qt ?_
    refine g_ifdL rfl (fun h5 => ?_) (fun h5 => ?_)
    · refine g_region ?_
      refine g_pure (p_fieldAddr rfl) rfl ?_
      refine g_pure (p_fieldAddr rfl) rfl ?_
      refine g_pure (p_load (by rfl) rfl (by first | (apply Has.own; (repeat' (first | exact Take.here | apply Take.there)); done) | exact Has.ro (by assumption)) (by first | rfl | assumption)) rfl ?_
      refine g_pure (p_move rfl) rfl ?_
      first | refine g_pure (p_negi rfl (by omega)) rfl ?_ | refine g_pure (p_neg rfl) rfl ?_
      refine g_pure (p_max rfl rfl) rfl ?_
      refine g_pure (p_assign rfl) rfl ?_
      refine g_nil ?_
      refine g_qt ?_
      refine g_seq ?_
      refine g_seq ?_
      refine g_region ?_
      refine g_pure (p_fieldAddr rfl) rfl ?_
      refine g_pure (p_fieldAddr rfl) rfl ?_
      refine g_pure (p_load (by rfl) rfl (by first | (apply Has.own; (repeat' (first | exact Take.here | apply Take.there)); done) | exact Has.ro (by assumption)) (by first | rfl | assumption)) rfl ?_
      refine g_pure (p_gtr rfl rfl) rfl ?_
      refine g_nil ?_
      refine g_qt ?_
      refine g_ifdL rfl (fun h6 => ?_) (fun h6 => ?_)
      · refine g_region ?_
        refine g_pure (p_fieldAddr rfl) rfl ?_
        refine g_pure (p_fieldAddr rfl) rfl ?_
        refine g_pure (p_load (by rfl) rfl (by first | (apply Has.own; (repeat' (first | exact Take.here | apply Take.there)); done) | exact Has.ro (by assumption)) (by first | rfl | assumption)) rfl ?_
        refine g_pure (p_move rfl) rfl ?_
        refine g_pure (p_min rfl rfl) rfl ?_
        refine g_pure (p_assign rfl) rfl ?_
        refine g_nil ?_
        refine g_qt ?_
        refine g_seq ?_
        refine g_region ?_
        refine g_pure (p_move rfl) rfl ?_
        refine g_pure (p_move rfl) rfl ?_
        refine g_call (Hin := []) (Hr := ?hr17) (R := ?rr17) rfl rfl rfl ?hin17 ?hc17 ?hk17
        case hin17 => repeat' (first | exact Cover.nil | exact Take.here | apply Cover.cons | apply Take.there)
        case hc17 => intro ρ' hρ hR; exact of_ok _ _
        rintro _ _ ⟨u1, u2, rfl, hu, rfl⟩
        first | refine g_eff0 (e_storeO rfl rfl (by rfl) (by rfl) (by rfl) (by repeat' (first | exact Take.here | apply Take.there)) (by rfl)) (fun _ _ => ?_) | refine g_eff0 (e_storeN rfl rfl (by rfl) (by rfl) (by rfl) (by repeat' (first | exact Take.here | apply Take.there)) (by simp)) (fun _ _ => ?_)
        rintro rfl
        refine g_nil ?_
        refine g_qt ?_
        refine g_ret ?_
        exact g_post (rs := [.cell 4 26]) rfl (Res.cellN (by rfl) rfl (Has.own (by repeat' (first | exact Take.here | apply Take.there))) (by rfl) .nil) ⟨_, _, rfl, by unfold restS restM; simp only [hasS_iff]; (repeat' (first | rw [if_pos (by omega)] | rw [if_neg (by omega)])); exact hu, rfl⟩ (by repeat' (first | exact Cover.nil | exact Take.here | apply Cover.cons | apply Take.there))
      · refine g_skip ?_
        refine g_qt ?_
        refine g_seq ?_
        refine g_region ?_
        refine g_pure (p_move rfl) rfl ?_
        refine g_pure (p_move rfl) rfl ?_
        refine g_call (Hin := []) (Hr := ?hr18) (R := ?rr18) rfl rfl rfl ?hin18 ?hc18 ?hk18
        case hin18 => repeat' (first | exact Cover.nil | exact Take.here | apply Cover.cons | apply Take.there)
        case hc18 => intro ρ' hρ hR; exact of_ok _ _
        rintro _ _ ⟨u1, u2, rfl, hu, rfl⟩
        first | refine g_eff0 (e_storeO rfl rfl (by rfl) (by rfl) (by rfl) (by repeat' (first | exact Take.here | apply Take.there)) (by rfl)) (fun _ _ => ?_) | refine g_eff0 (e_storeN rfl rfl (by rfl) (by rfl) (by rfl) (by repeat' (first | exact Take.here | apply Take.there)) (by simp)) (fun _ _ => ?_)
        rintro rfl
        refine g_nil ?_
        refine g_qt ?_
        refine g_ret ?_
        exact g_post (rs := [.cell 4 26]) rfl (Res.cellN (by rfl) rfl (Has.own (by repeat' (first | exact Take.here | apply Take.there))) (by rfl) .nil) ⟨_, _, rfl, by unfold restS restM; simp only [hasS_iff]; (repeat' (first | rw [if_pos (by omega)] | rw [if_neg (by omega)])); exact hu, rfl⟩ (by repeat' (first | exact Cover.nil | exact Take.here | apply Cover.cons | apply Take.there))
    · refine g_skip ?_
      refine g_qt ?_
      refine g_seq ?_
      refine g_seq ?_
      refine g_region ?_
      refine g_pure (p_fieldAddr rfl) rfl ?_
      refine g_pure (p_fieldAddr rfl) rfl ?_
      refine g_pure (p_load (by rfl) rfl (by first | (apply Has.own; (repeat' (first | exact Take.here | apply Take.there)); done) | exact Has.ro (by assumption)) (by first | rfl | assumption)) rfl ?_
      refine g_pure (p_gtr rfl rfl) rfl ?_
      refine g_nil ?_
      refine g_qt ?_
      refine g_ifdL rfl (fun h7 => ?_) (fun h7 => ?_)
      · refine g_region ?_
        refine g_pure (p_fieldAddr rfl) rfl ?_
        refine g_pure (p_fieldAddr rfl) rfl ?_
        refine g_pure (p_load (by rfl) rfl (by first | (apply Has.own; (repeat' (first | exact Take.here | apply Take.there)); done) | exact Has.ro (by assumption)) (by first | rfl | assumption)) rfl ?_
        refine g_pure (p_move rfl) rfl ?_
        refine g_pure (p_min rfl rfl) rfl ?_
        refine g_pure (p_assign rfl) rfl ?_
        refine g_nil ?_
        refine g_qt ?_
        refine g_seq ?_
        refine g_region ?_
        refine g_pure (p_move rfl) rfl ?_
        refine g_pure (p_move rfl) rfl ?_
        refine g_call (Hin := []) (Hr := ?hr19) (R := ?rr19) rfl rfl rfl ?hin19 ?hc19 ?hk19
        case hin19 => repeat' (first | exact Cover.nil | exact Take.here | apply Cover.cons | apply Take.there)
        case hc19 => intro ρ' hρ hR; exact of_ok _ _
        rintro _ _ ⟨u1, u2, rfl, hu, rfl⟩
        first | refine g_eff0 (e_storeO rfl rfl (by rfl) (by rfl) (by rfl) (by repeat' (first | exact Take.here | apply Take.there)) (by rfl)) (fun _ _ => ?_) | refine g_eff0 (e_storeN rfl rfl (by rfl) (by rfl) (by rfl) (by repeat' (first | exact Take.here | apply Take.there)) (by simp)) (fun _ _ => ?_)
        rintro rfl
        refine g_nil ?_
        refine g_qt ?_
        refine g_ret ?_
        exact g_post (rs := [.cell 4 26]) rfl (Res.cellN (by rfl) rfl (Has.own (by repeat' (first | exact Take.here | apply Take.there))) (by rfl) .nil) ⟨_, _, rfl, by unfold restS restM; simp only [hasS_iff]; (repeat' (first | rw [if_pos (by omega)] | rw [if_neg (by omega)])); exact hu, rfl⟩ (by repeat' (first | exact Cover.nil | exact Take.here | apply Cover.cons | apply Take.there))
      · refine g_skip ?_
        refine g_qt ?_
        refine g_seq ?_
        refine g_region ?_
        refine g_pure (p_move rfl) rfl ?_
        refine g_pure (p_move rfl) rfl ?_
        refine g_call (Hin := []) (Hr := ?hr20) (R := ?rr20) rfl rfl rfl ?hin20 ?hc20 ?hk20
        case hin20 => repeat' (first | exact Cover.nil | exact Take.here | apply Cover.cons | apply Take.there)
        case hc20 => intro ρ' hρ hR; exact of_ok _ _
        rintro _ _ ⟨u1, u2, rfl, hu, rfl⟩
        first | refine g_eff0 (e_storeO rfl rfl (by rfl) (by rfl) (by rfl) (by repeat' (first | exact Take.here | apply Take.there)) (by rfl)) (fun _ _ => ?_) | refine g_eff0 (e_storeN rfl rfl (by rfl) (by rfl) (by rfl) (by repeat' (first | exact Take.here | apply Take.there)) (by simp)) (fun _ _ => ?_)
        rintro rfl
        refine g_nil ?_
        refine g_qt ?_
        refine g_ret ?_
        exact g_post (rs := [.cell 4 26]) rfl (Res.cellN (by rfl) rfl (Has.own (by repeat' (first | exact Take.here | apply Take.there))) (by rfl) .nil) ⟨_, _, rfl, by unfold restS restM; simp only [hasS_iff]; (repeat' (first | rw [if_pos (by omega)] | rw [if_neg (by omega)])); exact hu, rfl⟩ (by repeat' (first | exact Cover.nil | exact Take.here | apply Cover.cons | apply Take.there))
theorem comp_gen {ρ : Nat → Obj → Prop} {op a1 a2 b1 b2 : Int} (h : Opn op (a1, a2) (b1, b2))
    (r13 : op = 15 → ∀ ρ', Con Try.prog ρ' 25 #[.int .i64 13, .agg #[.int .i64 b1, .int .i64 b2], .agg #[.int .i64 a1, .int .i64 a2]] [] (SpP (computeS op (a1, a2) (b1, b2))))
    (r14 : op = 16 → ∀ ρ', Con Try.prog ρ' 25 #[.int .i64 14, .agg #[.int .i64 b1, .int .i64 b2], .agg #[.int .i64 a1, .int .i64 a2]] [] (SpP (computeS op (a1, a2) (b1, b2)))) :
    Con Try.prog ρ 25 #[.int .i64 op, .agg #[.int .i64 a1, .int .i64 a2], .agg #[.int .i64 b1, .int .i64 b2]] [] (SpP (computeS op (a1, a2) (b1, b2))) := by
  obtain ⟨ho, hr⟩ := h
  have hp := prods hr
  have hr' : (op = 11 ∨ op = 12) ∨ (a1 ≤ a2 ∧ -32768 ≤ a1 ∧ a2 ≤ 32767) ∧ (b1 ≤ b2 ∧ -32768 ≤ b1 ∧ b2 ≤ 32767) := hr
  refine con_intro Try.func25 Try.call25 rfl Try.ntmps25 rfl (L := [(0, _), (1, _), (2, _)]) rfl fun w hh => ?_
  refine g_seq ?_
  refine g_region ?_
  refine g_eff (e_box rfl (by rfl)) rfl (fun _ _ => ?_)
  rintro ⟨b4, rfl, rfl⟩
  refine g_eff (e_box rfl (by rfl)) rfl (fun _ _ => ?_)
  rintro ⟨b5, rfl, rfl⟩
  refine g_eff (e_alloc (by rfl)) rfl (fun _ _ => ?_)
  rintro ⟨b6, rfl, rfl⟩
  refine g_nil ?_
  refine g_qt ?_
  refine g_seq ?_
  refine g_seq ?_
  refine g_region ?_
  refine g_pure (p_move rfl) rfl ?_
  refine g_nil ?_
  refine g_qt ?_
  refine g_block ?_
  refine g_seq ?_
  refine g_region ?_
  refine g_pure (p_eql rfl rfl) rfl ?_
  refine g_pure (p_assign rfl) rfl ?_
  refine g_nil ?_
  refine g_qt ?_
  refine g_ifdL rfl (fun h1 => ?_) (fun h1 => ?_)
  · refine g_seq ?_
    refine g_region ?_
    refine g_pure (p_fieldAddr rfl) rfl ?_
    refine g_pure (p_fieldAddr rfl) rfl ?_
    refine g_pure (p_load (by rfl) rfl (by first | (apply Has.own; (repeat' (first | exact Take.here | apply Take.there)); done) | exact Has.ro (by assumption)) (by first | rfl | assumption)) rfl ?_
    first | refine g_pure (p_subi rfl rfl (by omega)) rfl ?_ | refine g_pure (p_sub rfl rfl) rfl ?_
    refine g_pure (p_fieldAddr rfl) rfl ?_
    refine g_pure (p_fieldAddr rfl) rfl ?_
    refine g_pure (p_load (by rfl) rfl (by first | (apply Has.own; (repeat' (first | exact Take.here | apply Take.there)); done) | exact Has.ro (by assumption)) (by first | rfl | assumption)) rfl ?_
    first | refine g_pure (p_subi rfl rfl (by omega)) rfl ?_ | refine g_pure (p_sub rfl rfl) rfl ?_
    refine g_call (Hin := []) (Hr := ?hr21) (R := ?rr21) rfl rfl rfl ?hin21 ?hc21 ?hk21
    case hin21 => repeat' (first | exact Cover.nil | exact Take.here | apply Cover.cons | apply Take.there)
    case hc21 => intro ρ' hρ hR; exact of_ok _ _
    rintro _ _ ⟨u1, u2, rfl, hu, rfl⟩
    first | refine g_eff0 (e_storeO rfl rfl (by rfl) (by rfl) (by rfl) (by repeat' (first | exact Take.here | apply Take.there)) (by rfl)) (fun _ _ => ?_) | refine g_eff0 (e_storeN rfl rfl (by rfl) (by rfl) (by rfl) (by repeat' (first | exact Take.here | apply Take.there)) (by simp)) (fun _ _ => ?_)
    rintro rfl
    refine g_nil ?_
    refine g_qt ?_
    refine g_ret ?_
    refine g_qb_ret ?_
    refine g_qt_ret ?_
    exact g_post (rs := [.cell 6 26]) rfl (Res.cellN (by rfl) rfl (Has.own (by repeat' (first | exact Take.here | apply Take.there))) (by rfl) .nil) ⟨_, _, rfl, by first | exact hu | (unfold computeS; (repeat' (first | rw [if_pos (by omega)] | rw [if_neg (by omega)])); first | done | exact hu | (rw [hm]; exact hu) | (rw [mul4]; exact hu)), rfl⟩ (by repeat' (first | exact Cover.nil | exact Take.here | apply Cover.cons | apply Take.there))
  · refine g_seq ?_
    refine g_region ?_
    refine g_pure (p_eql rfl rfl) rfl ?_
    refine g_pure (p_assign rfl) rfl ?_
    refine g_nil ?_
    refine g_qt ?_
    refine g_ifdL rfl (fun h2 => ?_) (fun h2 => ?_)
    · refine g_seq ?_
      refine g_region ?_
      refine g_pure (p_fieldAddr rfl) rfl ?_
      refine g_pure (p_fieldAddr rfl) rfl ?_
      refine g_pure (p_load (by rfl) rfl (by first | (apply Has.own; (repeat' (first | exact Take.here | apply Take.there)); done) | exact Has.ro (by assumption)) (by first | rfl | assumption)) rfl ?_
      refine g_pure (p_fieldAddr rfl) rfl ?_
      refine g_pure (p_fieldAddr rfl) rfl ?_
      refine g_pure (p_load (by rfl) rfl (by first | (apply Has.own; (repeat' (first | exact Take.here | apply Take.there)); done) | exact Has.ro (by assumption)) (by first | rfl | assumption)) rfl ?_
      refine g_pure (p_min rfl rfl) rfl ?_
      refine g_pure (p_fieldAddr rfl) rfl ?_
      refine g_pure (p_fieldAddr rfl) rfl ?_
      refine g_pure (p_load (by rfl) rfl (by first | (apply Has.own; (repeat' (first | exact Take.here | apply Take.there)); done) | exact Has.ro (by assumption)) (by first | rfl | assumption)) rfl ?_
      refine g_pure (p_fieldAddr rfl) rfl ?_
      refine g_pure (p_fieldAddr rfl) rfl ?_
      refine g_pure (p_load (by rfl) rfl (by first | (apply Has.own; (repeat' (first | exact Take.here | apply Take.there)); done) | exact Has.ro (by assumption)) (by first | rfl | assumption)) rfl ?_
      refine g_pure (p_min rfl rfl) rfl ?_
      refine g_call (Hin := []) (Hr := ?hr22) (R := ?rr22) rfl rfl rfl ?hin22 ?hc22 ?hk22
      case hin22 => repeat' (first | exact Cover.nil | exact Take.here | apply Cover.cons | apply Take.there)
      case hc22 => intro ρ' hρ hR; exact of_ok _ _
      rintro _ _ ⟨u1, u2, rfl, hu, rfl⟩
      first | refine g_eff0 (e_storeO rfl rfl (by rfl) (by rfl) (by rfl) (by repeat' (first | exact Take.here | apply Take.there)) (by rfl)) (fun _ _ => ?_) | refine g_eff0 (e_storeN rfl rfl (by rfl) (by rfl) (by rfl) (by repeat' (first | exact Take.here | apply Take.there)) (by simp)) (fun _ _ => ?_)
      rintro rfl
      refine g_nil ?_
      refine g_qt ?_
      refine g_ret ?_
      refine g_qb_ret ?_
      refine g_qt_ret ?_
      exact g_post (rs := [.cell 6 26]) rfl (Res.cellN (by rfl) rfl (Has.own (by repeat' (first | exact Take.here | apply Take.there))) (by rfl) .nil) ⟨_, _, rfl, by first | exact hu | (unfold computeS; (repeat' (first | rw [if_pos (by omega)] | rw [if_neg (by omega)])); first | done | exact hu | (rw [hm]; exact hu) | (rw [mul4]; exact hu)), rfl⟩ (by repeat' (first | exact Cover.nil | exact Take.here | apply Cover.cons | apply Take.there))
    · refine g_seq ?_
      refine g_region ?_
      refine g_pure (p_eql rfl rfl) rfl ?_
      refine g_pure (p_assign rfl) rfl ?_
      refine g_nil ?_
      refine g_qt ?_
      refine g_ifdL rfl (fun h3 => ?_) (fun h3 => ?_)
      · refine g_seq ?_
        refine g_region ?_
        refine g_pure (p_fieldAddr rfl) rfl ?_
        refine g_pure (p_fieldAddr rfl) rfl ?_
        refine g_pure (p_load (by rfl) rfl (by first | (apply Has.own; (repeat' (first | exact Take.here | apply Take.there)); done) | exact Has.ro (by assumption)) (by first | rfl | assumption)) rfl ?_
        refine g_pure (p_fieldAddr rfl) rfl ?_
        refine g_pure (p_fieldAddr rfl) rfl ?_
        refine g_pure (p_load (by rfl) rfl (by first | (apply Has.own; (repeat' (first | exact Take.here | apply Take.there)); done) | exact Has.ro (by assumption)) (by first | rfl | assumption)) rfl ?_
        refine g_pure (p_max rfl rfl) rfl ?_
        refine g_pure (p_fieldAddr rfl) rfl ?_
        refine g_pure (p_fieldAddr rfl) rfl ?_
        refine g_pure (p_load (by rfl) rfl (by first | (apply Has.own; (repeat' (first | exact Take.here | apply Take.there)); done) | exact Has.ro (by assumption)) (by first | rfl | assumption)) rfl ?_
        refine g_pure (p_fieldAddr rfl) rfl ?_
        refine g_pure (p_fieldAddr rfl) rfl ?_
        refine g_pure (p_load (by rfl) rfl (by first | (apply Has.own; (repeat' (first | exact Take.here | apply Take.there)); done) | exact Has.ro (by assumption)) (by first | rfl | assumption)) rfl ?_
        refine g_pure (p_max rfl rfl) rfl ?_
        refine g_call (Hin := []) (Hr := ?hr23) (R := ?rr23) rfl rfl rfl ?hin23 ?hc23 ?hk23
        case hin23 => repeat' (first | exact Cover.nil | exact Take.here | apply Cover.cons | apply Take.there)
        case hc23 => intro ρ' hρ hR; exact of_ok _ _
        rintro _ _ ⟨u1, u2, rfl, hu, rfl⟩
        first | refine g_eff0 (e_storeO rfl rfl (by rfl) (by rfl) (by rfl) (by repeat' (first | exact Take.here | apply Take.there)) (by rfl)) (fun _ _ => ?_) | refine g_eff0 (e_storeN rfl rfl (by rfl) (by rfl) (by rfl) (by repeat' (first | exact Take.here | apply Take.there)) (by simp)) (fun _ _ => ?_)
        rintro rfl
        refine g_nil ?_
        refine g_qt ?_
        refine g_ret ?_
        refine g_qb_ret ?_
        refine g_qt_ret ?_
        exact g_post (rs := [.cell 6 26]) rfl (Res.cellN (by rfl) rfl (Has.own (by repeat' (first | exact Take.here | apply Take.there))) (by rfl) .nil) ⟨_, _, rfl, by first | exact hu | (unfold computeS; (repeat' (first | rw [if_pos (by omega)] | rw [if_neg (by omega)])); first | done | exact hu | (rw [hm]; exact hu) | (rw [mul4]; exact hu)), rfl⟩ (by repeat' (first | exact Cover.nil | exact Take.here | apply Cover.cons | apply Take.there))
      · refine g_seq ?_
        refine g_region ?_
        refine g_pure (p_eql rfl rfl) rfl ?_
        refine g_pure (p_assign rfl) rfl ?_
        refine g_nil ?_
        refine g_qt ?_
        refine g_ifdL rfl (fun h4 => ?_) (fun h4 => ?_)
        · refine g_seq ?_
          refine g_region ?_
          refine g_pure (p_fieldAddr rfl) rfl ?_
          refine g_pure (p_fieldAddr rfl) rfl ?_
          refine g_pure (p_load (by rfl) rfl (by first | (apply Has.own; (repeat' (first | exact Take.here | apply Take.there)); done) | exact Has.ro (by assumption)) (by first | rfl | assumption)) rfl ?_
          first | refine g_pure (p_negi rfl (by omega)) rfl ?_ | refine g_pure (p_neg rfl) rfl ?_
          refine g_pure (p_fieldAddr rfl) rfl ?_
          refine g_pure (p_fieldAddr rfl) rfl ?_
          refine g_pure (p_load (by rfl) rfl (by first | (apply Has.own; (repeat' (first | exact Take.here | apply Take.there)); done) | exact Has.ro (by assumption)) (by first | rfl | assumption)) rfl ?_
          first | refine g_pure (p_negi rfl (by omega)) rfl ?_ | refine g_pure (p_neg rfl) rfl ?_
          refine g_call (Hin := []) (Hr := ?hr24) (R := ?rr24) rfl rfl rfl ?hin24 ?hc24 ?hk24
          case hin24 => repeat' (first | exact Cover.nil | exact Take.here | apply Cover.cons | apply Take.there)
          case hc24 => intro ρ' hρ hR; exact (by refine wrapped_ok _ _ ?_; omega)
          rintro _ _ ⟨u1, u2, rfl, hu, rfl⟩
          first | refine g_eff0 (e_storeO rfl rfl (by rfl) (by rfl) (by rfl) (by repeat' (first | exact Take.here | apply Take.there)) (by rfl)) (fun _ _ => ?_) | refine g_eff0 (e_storeN rfl rfl (by rfl) (by rfl) (by rfl) (by repeat' (first | exact Take.here | apply Take.there)) (by simp)) (fun _ _ => ?_)
          rintro rfl
          refine g_nil ?_
          refine g_qt ?_
          refine g_ret ?_
          refine g_qb_ret ?_
          refine g_qt_ret ?_
          exact g_post (rs := [.cell 6 26]) rfl (Res.cellN (by rfl) rfl (Has.own (by repeat' (first | exact Take.here | apply Take.there))) (by rfl) .nil) ⟨_, _, rfl, by first | exact hu | (unfold computeS; (repeat' (first | rw [if_pos (by omega)] | rw [if_neg (by omega)])); first | done | exact hu | (rw [hm]; exact hu) | (rw [mul4]; exact hu)), rfl⟩ (by repeat' (first | exact Cover.nil | exact Take.here | apply Cover.cons | apply Take.there))
        · refine g_seq ?_
          refine g_region ?_
          refine g_pure (p_eql rfl rfl) rfl ?_
          refine g_pure (p_assign rfl) rfl ?_
          refine g_nil ?_
          refine g_qt ?_
          refine g_ifdL rfl (fun h5 => ?_) (fun h5 => ?_)
          · refine g_seq ?_
            refine g_region ?_
            refine g_pure (p_fieldAddr rfl) rfl ?_
            refine g_pure (p_fieldAddr rfl) rfl ?_
            refine g_pure (p_load (by rfl) rfl (by first | (apply Has.own; (repeat' (first | exact Take.here | apply Take.there)); done) | exact Has.ro (by assumption)) (by first | rfl | assumption)) rfl ?_
            refine g_pure (p_fieldAddr rfl) rfl ?_
            refine g_pure (p_fieldAddr rfl) rfl ?_
            refine g_pure (p_load (by rfl) rfl (by first | (apply Has.own; (repeat' (first | exact Take.here | apply Take.there)); done) | exact Has.ro (by assumption)) (by first | rfl | assumption)) rfl ?_
            first | refine g_pure (p_addi rfl rfl (by omega)) rfl ?_ | refine g_pure (p_add rfl rfl) rfl ?_
            refine g_pure (p_fieldAddr rfl) rfl ?_
            refine g_pure (p_fieldAddr rfl) rfl ?_
            refine g_pure (p_load (by rfl) rfl (by first | (apply Has.own; (repeat' (first | exact Take.here | apply Take.there)); done) | exact Has.ro (by assumption)) (by first | rfl | assumption)) rfl ?_
            refine g_pure (p_fieldAddr rfl) rfl ?_
            refine g_pure (p_fieldAddr rfl) rfl ?_
            refine g_pure (p_load (by rfl) rfl (by first | (apply Has.own; (repeat' (first | exact Take.here | apply Take.there)); done) | exact Has.ro (by assumption)) (by first | rfl | assumption)) rfl ?_
            first | refine g_pure (p_addi rfl rfl (by omega)) rfl ?_ | refine g_pure (p_add rfl rfl) rfl ?_
            refine g_call (Hin := []) (Hr := ?hr25) (R := ?rr25) rfl rfl rfl ?hin25 ?hc25 ?hk25
            case hin25 => repeat' (first | exact Cover.nil | exact Take.here | apply Cover.cons | apply Take.there)
            case hc25 => intro ρ' hρ hR; exact (by refine wrapped_ok _ _ ?_; omega)
            rintro _ _ ⟨u1, u2, rfl, hu, rfl⟩
            first | refine g_eff0 (e_storeO rfl rfl (by rfl) (by rfl) (by rfl) (by repeat' (first | exact Take.here | apply Take.there)) (by rfl)) (fun _ _ => ?_) | refine g_eff0 (e_storeN rfl rfl (by rfl) (by rfl) (by rfl) (by repeat' (first | exact Take.here | apply Take.there)) (by simp)) (fun _ _ => ?_)
            rintro rfl
            refine g_nil ?_
            refine g_qt ?_
            refine g_ret ?_
            refine g_qb_ret ?_
            refine g_qt_ret ?_
            exact g_post (rs := [.cell 6 26]) rfl (Res.cellN (by rfl) rfl (Has.own (by repeat' (first | exact Take.here | apply Take.there))) (by rfl) .nil) ⟨_, _, rfl, by first | exact hu | (unfold computeS; (repeat' (first | rw [if_pos (by omega)] | rw [if_neg (by omega)])); first | done | exact hu | (rw [hm]; exact hu) | (rw [mul4]; exact hu)), rfl⟩ (by repeat' (first | exact Cover.nil | exact Take.here | apply Cover.cons | apply Take.there))
          · refine g_seq ?_
            refine g_region ?_
            refine g_pure (p_eql rfl rfl) rfl ?_
            refine g_pure (p_assign rfl) rfl ?_
            refine g_nil ?_
            refine g_qt ?_
            refine g_ifdL rfl (fun h6 => ?_) (fun h6 => ?_)
            · refine g_seq ?_
              refine g_region ?_
              refine g_pure (p_fieldAddr rfl) rfl ?_
              refine g_pure (p_fieldAddr rfl) rfl ?_
              refine g_pure (p_load (by rfl) rfl (by first | (apply Has.own; (repeat' (first | exact Take.here | apply Take.there)); done) | exact Has.ro (by assumption)) (by first | rfl | assumption)) rfl ?_
              refine g_pure (p_fieldAddr rfl) rfl ?_
              refine g_pure (p_fieldAddr rfl) rfl ?_
              refine g_pure (p_load (by rfl) rfl (by first | (apply Has.own; (repeat' (first | exact Take.here | apply Take.there)); done) | exact Has.ro (by assumption)) (by first | rfl | assumption)) rfl ?_
              first | refine g_pure (p_subi rfl rfl (by omega)) rfl ?_ | refine g_pure (p_sub rfl rfl) rfl ?_
              refine g_pure (p_fieldAddr rfl) rfl ?_
              refine g_pure (p_fieldAddr rfl) rfl ?_
              refine g_pure (p_load (by rfl) rfl (by first | (apply Has.own; (repeat' (first | exact Take.here | apply Take.there)); done) | exact Has.ro (by assumption)) (by first | rfl | assumption)) rfl ?_
              refine g_pure (p_fieldAddr rfl) rfl ?_
              refine g_pure (p_fieldAddr rfl) rfl ?_
              refine g_pure (p_load (by rfl) rfl (by first | (apply Has.own; (repeat' (first | exact Take.here | apply Take.there)); done) | exact Has.ro (by assumption)) (by first | rfl | assumption)) rfl ?_
              first | refine g_pure (p_subi rfl rfl (by omega)) rfl ?_ | refine g_pure (p_sub rfl rfl) rfl ?_
              refine g_call (Hin := []) (Hr := ?hr26) (R := ?rr26) rfl rfl rfl ?hin26 ?hc26 ?hk26
              case hin26 => repeat' (first | exact Cover.nil | exact Take.here | apply Cover.cons | apply Take.there)
              case hc26 => intro ρ' hρ hR; exact (by refine wrapped_ok _ _ ?_; omega)
              rintro _ _ ⟨u1, u2, rfl, hu, rfl⟩
              first | refine g_eff0 (e_storeO rfl rfl (by rfl) (by rfl) (by rfl) (by repeat' (first | exact Take.here | apply Take.there)) (by rfl)) (fun _ _ => ?_) | refine g_eff0 (e_storeN rfl rfl (by rfl) (by rfl) (by rfl) (by repeat' (first | exact Take.here | apply Take.there)) (by simp)) (fun _ _ => ?_)
              rintro rfl
              refine g_nil ?_
              refine g_qt ?_
              refine g_ret ?_
              refine g_qb_ret ?_
              refine g_qt_ret ?_
              exact g_post (rs := [.cell 6 26]) rfl (Res.cellN (by rfl) rfl (Has.own (by repeat' (first | exact Take.here | apply Take.there))) (by rfl) .nil) ⟨_, _, rfl, by first | exact hu | (unfold computeS; (repeat' (first | rw [if_pos (by omega)] | rw [if_neg (by omega)])); first | done | exact hu | (rw [hm]; exact hu) | (rw [mul4]; exact hu)), rfl⟩ (by repeat' (first | exact Cover.nil | exact Take.here | apply Cover.cons | apply Take.there))
            · refine g_seq ?_
              refine g_region ?_
              refine g_pure (p_eql rfl rfl) rfl ?_
              refine g_pure (p_assign rfl) rfl ?_
              refine g_nil ?_
              refine g_qt ?_
              refine g_ifdL rfl (fun h7 => ?_) (fun h7 => ?_)
              · refine g_seq ?_
                refine m_begin0 (.fl 0 0 (.fl 1 0 (.fl 2 1 (.fl 3 0 (.fl 4 0 (.fl 5 1 (.fl 6 0 (.fl 7 0 (.fl 8 0 (.fl 9 1 (.fl 10 0 (.fl 11 0 (.fl 12 1 (.fl 13 0 (.fl 14 0 (.fl 15 0 (.fl 16 1 (.fl 17 0 (.fl 18 0 (.fl 19 1 (.fl 20 0 (.fl 21 0 (.fl 22 0 (.fl 23 1 (.fl 24 0 (.fl 25 0 (.fl 26 1 (.fl 27 0 (.fl 28 0 (.fl 29 0 (.fl 30 0 (.fl 31 0 .done)))))))))))))))))))))))))))))))) (by kernel_rfl) (by kernel_rfl) ?_
                refine m_float0 rfl (fun _ _ => p_fieldAddr rfl) rfl ?_
                refine m_float0 rfl (fun _ _ => p_fieldAddr rfl) rfl ?_
                refine m_float rfl (p_load (by rfl) rfl (by first | (apply Has.own; (repeat' (first | exact Take.here | apply Take.there)); done) | exact Has.ro (by assumption)) (by first | rfl | assumption)) rfl ?_
                refine m_float0 rfl (fun _ _ => p_fieldAddr rfl) rfl ?_
                refine m_float0 rfl (fun _ _ => p_fieldAddr rfl) rfl ?_
                refine m_float rfl (p_load (by rfl) rfl (by first | (apply Has.own; (repeat' (first | exact Take.here | apply Take.there)); done) | exact Has.ro (by assumption)) (by first | rfl | assumption)) rfl ?_
                first | refine m_float0 rfl (fun _ _ => p_muli rfl rfl (by omega)) rfl ?_ | refine m_float0 rfl (fun _ _ => p_mul rfl rfl) rfl ?_
                refine m_float0 rfl (fun _ _ => p_fieldAddr rfl) rfl ?_
                refine m_float0 rfl (fun _ _ => p_fieldAddr rfl) rfl ?_
                refine m_float rfl (p_load (by rfl) rfl (by first | (apply Has.own; (repeat' (first | exact Take.here | apply Take.there)); done) | exact Has.ro (by assumption)) (by first | rfl | assumption)) rfl ?_
                refine m_float0 rfl (fun _ _ => p_fieldAddr rfl) rfl ?_
                refine m_float0 rfl (fun _ _ => p_fieldAddr rfl) rfl ?_
                refine m_float rfl (p_load (by rfl) rfl (by first | (apply Has.own; (repeat' (first | exact Take.here | apply Take.there)); done) | exact Has.ro (by assumption)) (by first | rfl | assumption)) rfl ?_
                first | refine m_float0 rfl (fun _ _ => p_muli rfl rfl (by omega)) rfl ?_ | refine m_float0 rfl (fun _ _ => p_mul rfl rfl) rfl ?_
                refine m_float0 rfl (fun _ _ => p_fieldAddr rfl) rfl ?_
                refine m_float0 rfl (fun _ _ => p_fieldAddr rfl) rfl ?_
                refine m_float rfl (p_load (by rfl) rfl (by first | (apply Has.own; (repeat' (first | exact Take.here | apply Take.there)); done) | exact Has.ro (by assumption)) (by first | rfl | assumption)) rfl ?_
                refine m_float0 rfl (fun _ _ => p_fieldAddr rfl) rfl ?_
                refine m_float0 rfl (fun _ _ => p_fieldAddr rfl) rfl ?_
                refine m_float rfl (p_load (by rfl) rfl (by first | (apply Has.own; (repeat' (first | exact Take.here | apply Take.there)); done) | exact Has.ro (by assumption)) (by first | rfl | assumption)) rfl ?_
                first | refine m_float0 rfl (fun _ _ => p_muli rfl rfl (by omega)) rfl ?_ | refine m_float0 rfl (fun _ _ => p_mul rfl rfl) rfl ?_
                refine m_float0 rfl (fun _ _ => p_fieldAddr rfl) rfl ?_
                refine m_float0 rfl (fun _ _ => p_fieldAddr rfl) rfl ?_
                refine m_float rfl (p_load (by rfl) rfl (by first | (apply Has.own; (repeat' (first | exact Take.here | apply Take.there)); done) | exact Has.ro (by assumption)) (by first | rfl | assumption)) rfl ?_
                refine m_float0 rfl (fun _ _ => p_fieldAddr rfl) rfl ?_
                refine m_float0 rfl (fun _ _ => p_fieldAddr rfl) rfl ?_
                refine m_float rfl (p_load (by rfl) rfl (by first | (apply Has.own; (repeat' (first | exact Take.here | apply Take.there)); done) | exact Has.ro (by assumption)) (by first | rfl | assumption)) rfl ?_
                first | refine m_float0 rfl (fun _ _ => p_muli rfl rfl (by omega)) rfl ?_ | refine m_float0 rfl (fun _ _ => p_mul rfl rfl) rfl ?_
                refine m_float0 rfl (fun _ _ => p_assign rfl) rfl ?_
                refine m_float0 rfl (fun _ _ => p_assign rfl) rfl ?_
                refine m_float0 rfl (fun _ _ => p_assign rfl) rfl ?_
                refine m_float0 rfl (fun _ _ => p_assign rfl) rfl ?_
                refine m_nil ?_
                refine g_qt ?_
                refine g_seq ?_
                refine g_region ?_
                refine g_pure (p_move rfl) rfl ?_
                refine g_pure (p_move rfl) rfl ?_
                refine g_pure (p_move rfl) rfl ?_
                refine g_pure (p_move rfl) rfl ?_
                refine g_pure (p_min4 rfl rfl rfl rfl) rfl ?_
                refine g_pure (p_move rfl) rfl ?_
                refine g_pure (p_move rfl) rfl ?_
                refine g_pure (p_move rfl) rfl ?_
                refine g_pure (p_move rfl) rfl ?_
                refine g_pure (p_max4 rfl rfl rfl rfl) rfl ?_
                refine g_call (Hin := []) (Hr := ?hr27) (R := ?rr27) rfl rfl rfl ?hin27 ?hc27 ?hk27
                case hin27 => repeat' (first | exact Cover.nil | exact Take.here | apply Cover.cons | apply Take.there)
                case hc27 => intro ρ' hρ hR; exact (by refine wrapped_ok _ _ ?_; omega)
                rintro _ _ ⟨u1, u2, rfl, hu, rfl⟩
                first | refine g_eff0 (e_storeO rfl rfl (by rfl) (by rfl) (by rfl) (by repeat' (first | exact Take.here | apply Take.there)) (by rfl)) (fun _ _ => ?_) | refine g_eff0 (e_storeN rfl rfl (by rfl) (by rfl) (by rfl) (by repeat' (first | exact Take.here | apply Take.there)) (by simp)) (fun _ _ => ?_)
                rintro rfl
                refine g_nil ?_
                refine g_qt ?_
                refine g_ret ?_
                refine g_qb_ret ?_
                refine g_qt_ret ?_
                exact g_post (rs := [.cell 6 26]) rfl (Res.cellN (by rfl) rfl (Has.own (by repeat' (first | exact Take.here | apply Take.there))) (by rfl) .nil) ⟨_, _, rfl, by first | exact hu | (unfold computeS; (repeat' (first | rw [if_pos (by omega)] | rw [if_neg (by omega)])); first | done | exact hu | (rw [hm]; exact hu) | (rw [mul4]; exact hu)), rfl⟩ (by repeat' (first | exact Cover.nil | exact Take.here | apply Cover.cons | apply Take.there))
              · refine g_seq ?_
                refine g_region ?_
                refine g_pure (p_eql rfl rfl) rfl ?_
                refine g_pure (p_assign rfl) rfl ?_
                refine g_nil ?_
                refine g_qt ?_
                refine g_ifdL rfl (fun h8 => ?_) (fun h8 => ?_)
                · refine g_seq ?_
                  refine g_region ?_
                  first | refine g_pure (p_loadO (by rfl) rfl (by first | (apply Has.own; (repeat' (first | exact Take.here | apply Take.there)); done) | exact Has.ro (by assumption)) (by rfl)) rfl ?_ | refine g_pure (p_loadN (by rfl) rfl (by first | (apply Has.own; (repeat' (first | exact Take.here | apply Take.there)); done) | exact Has.ro (by assumption)) (by first | rfl | assumption)) rfl ?_
                  first | refine g_pure (p_loadO (by rfl) rfl (by first | (apply Has.own; (repeat' (first | exact Take.here | apply Take.there)); done) | exact Has.ro (by assumption)) (by rfl)) rfl ?_ | refine g_pure (p_loadN (by rfl) rfl (by first | (apply Has.own; (repeat' (first | exact Take.here | apply Take.there)); done) | exact Has.ro (by assumption)) (by first | rfl | assumption)) rfl ?_
                  refine g_call (Hin := []) (Hr := ?hr28) (R := ?rr28) rfl rfl rfl ?hin28 ?hc28 ?hk28
                  case hin28 => repeat' (first | exact Cover.nil | exact Take.here | apply Cover.cons | apply Take.there)
                  case hc28 => intro ρ' hρ hR; exact quot_ok (hr.resolve_left (by omega)).1 (hr.resolve_left (by omega)).2
                  rintro _ _ ⟨u1, u2, rfl, hu, rfl⟩
                  first | refine g_eff0 (e_storeO rfl rfl (by rfl) (by rfl) (by rfl) (by repeat' (first | exact Take.here | apply Take.there)) (by rfl)) (fun _ _ => ?_) | refine g_eff0 (e_storeN rfl rfl (by rfl) (by rfl) (by rfl) (by repeat' (first | exact Take.here | apply Take.there)) (by simp)) (fun _ _ => ?_)
                  rintro rfl
                  refine g_nil ?_
                  refine g_qt ?_
                  refine g_ret ?_
                  refine g_qb_ret ?_
                  refine g_qt_ret ?_
                  exact g_post (rs := [.cell 6 26]) rfl (Res.cellN (by rfl) rfl (Has.own (by repeat' (first | exact Take.here | apply Take.there))) (by rfl) .nil) ⟨_, _, rfl, by first | exact hu | (unfold computeS; (repeat' (first | rw [if_pos (by omega)] | rw [if_neg (by omega)])); first | done | exact hu | (rw [hm]; exact hu) | (rw [mul4]; exact hu)), rfl⟩ (by repeat' (first | exact Cover.nil | exact Take.here | apply Cover.cons | apply Take.there))
                · refine g_seq ?_
                  refine g_region ?_
                  refine g_pure (p_eql rfl rfl) rfl ?_
                  refine g_pure (p_assign rfl) rfl ?_
                  refine g_nil ?_
                  refine g_qt ?_
                  refine g_ifdL rfl (fun h9 => ?_) (fun h9 => ?_)
                  · refine g_seq ?_
                    refine g_region ?_
                    first | refine g_pure (p_loadO (by rfl) rfl (by first | (apply Has.own; (repeat' (first | exact Take.here | apply Take.there)); done) | exact Has.ro (by assumption)) (by rfl)) rfl ?_ | refine g_pure (p_loadN (by rfl) rfl (by first | (apply Has.own; (repeat' (first | exact Take.here | apply Take.there)); done) | exact Has.ro (by assumption)) (by first | rfl | assumption)) rfl ?_
                    first | refine g_pure (p_loadO (by rfl) rfl (by first | (apply Has.own; (repeat' (first | exact Take.here | apply Take.there)); done) | exact Has.ro (by assumption)) (by rfl)) rfl ?_ | refine g_pure (p_loadN (by rfl) rfl (by first | (apply Has.own; (repeat' (first | exact Take.here | apply Take.there)); done) | exact Has.ro (by assumption)) (by first | rfl | assumption)) rfl ?_
                    refine g_call (Hin := []) (Hr := ?hr29) (R := ?rr29) rfl rfl rfl ?hin29 ?hc29 ?hk29
                    case hin29 => repeat' (first | exact Cover.nil | exact Take.here | apply Cover.cons | apply Take.there)
                    case hc29 => intro ρ' hρ hR; exact srest_ok (hr.resolve_left (by omega)).1 (hr.resolve_left (by omega)).2
                    rintro _ _ ⟨u1, u2, rfl, hu, rfl⟩
                    first | refine g_eff0 (e_storeO rfl rfl (by rfl) (by rfl) (by rfl) (by repeat' (first | exact Take.here | apply Take.there)) (by rfl)) (fun _ _ => ?_) | refine g_eff0 (e_storeN rfl rfl (by rfl) (by rfl) (by rfl) (by repeat' (first | exact Take.here | apply Take.there)) (by simp)) (fun _ _ => ?_)
                    rintro rfl
                    refine g_nil ?_
                    refine g_qt ?_
                    refine g_ret ?_
                    refine g_qb_ret ?_
                    refine g_qt_ret ?_
                    exact g_post (rs := [.cell 6 26]) rfl (Res.cellN (by rfl) rfl (Has.own (by repeat' (first | exact Take.here | apply Take.there))) (by rfl) .nil) ⟨_, _, rfl, by first | exact hu | (unfold computeS; (repeat' (first | rw [if_pos (by omega)] | rw [if_neg (by omega)])); first | done | exact hu | (rw [hm]; exact hu) | (rw [mul4]; exact hu)), rfl⟩ (by repeat' (first | exact Cover.nil | exact Take.here | apply Cover.cons | apply Take.there))
                  · refine g_seq ?_
                    refine g_region ?_
                    refine g_pure (p_eql rfl rfl) rfl ?_
                    refine g_pure (p_assign rfl) rfl ?_
                    refine g_nil ?_
                    refine g_qt ?_
                    refine g_ifdL rfl (fun h10 => ?_) (fun h10 => ?_)
                    · refine g_seq ?_
                      refine g_region ?_
                      refine g_pure (p_fieldAddr rfl) rfl ?_
                      first | refine g_pure (p_loadO (by rfl) rfl (by first | (apply Has.own; (repeat' (first | exact Take.here | apply Take.there)); done) | exact Has.ro (by assumption)) (by rfl)) rfl ?_ | refine g_pure (p_loadN (by rfl) rfl (by first | (apply Has.own; (repeat' (first | exact Take.here | apply Take.there)); done) | exact Has.ro (by assumption)) (by first | rfl | assumption)) rfl ?_
                      refine g_pure (p_fieldAddr rfl) rfl ?_
                      first | refine g_pure (p_loadO (by rfl) rfl (by first | (apply Has.own; (repeat' (first | exact Take.here | apply Take.there)); done) | exact Has.ro (by assumption)) (by rfl)) rfl ?_ | refine g_pure (p_loadN (by rfl) rfl (by first | (apply Has.own; (repeat' (first | exact Take.here | apply Take.there)); done) | exact Has.ro (by assumption)) (by first | rfl | assumption)) rfl ?_
                      refine g_call (Hin := []) (Hr := ?hr30) (R := ?rr30) rfl rfl rfl ?hin30 ?hc30 ?hk30
                      case hin30 => repeat' (first | exact Cover.nil | exact Take.here | apply Cover.cons | apply Take.there)
                      case hc30 => intro ρ' hρ hR; exact meet_ok _ _ _ _
                      rintro _ _ ⟨m1, m2, rfl, hm, rfl⟩
                      refine g_call (Hin := []) (Hr := ?hr31) (R := ?rr31) rfl rfl rfl ?hin31 ?hc31 ?hk31
                      case hin31 => repeat' (first | exact Cover.nil | exact Take.here | apply Cover.cons | apply Take.there)
                      case hc31 => intro ρ' hρ hR; exact empty_ok _ _
                      rintro _ _ ⟨rfl, rfl⟩
                      refine g_call (Hin := []) (Hr := ?hr32) (R := ?rr32) rfl rfl rfl ?hin32 ?hc32 ?hk32
                      case hin32 => repeat' (first | exact Cover.nil | exact Take.here | apply Cover.cons | apply Take.there)
                      case hc32 => intro ρ' hρ hR; exact about_ok _ _
                      rintro _ _ ⟨u1, u2, rfl, hu, rfl⟩
                      first | refine g_eff0 (e_storeO rfl rfl (by rfl) (by rfl) (by rfl) (by repeat' (first | exact Take.here | apply Take.there)) (by rfl)) (fun _ _ => ?_) | refine g_eff0 (e_storeN rfl rfl (by rfl) (by rfl) (by rfl) (by repeat' (first | exact Take.here | apply Take.there)) (by simp)) (fun _ _ => ?_)
                      rintro rfl
                      refine g_nil ?_
                      refine g_qt ?_
                      refine g_ret ?_
                      refine g_qb_ret ?_
                      refine g_qt_ret ?_
                      exact g_post (rs := [.cell 6 26]) rfl (Res.cellN (by rfl) rfl (Has.own (by repeat' (first | exact Take.here | apply Take.there))) (by rfl) .nil) ⟨_, _, rfl, by first | exact hu | (unfold computeS; (repeat' (first | rw [if_pos (by omega)] | rw [if_neg (by omega)])); first | done | exact hu | (rw [hm]; exact hu) | (rw [mul4]; exact hu)), rfl⟩ (by repeat' (first | exact Cover.nil | exact Take.here | apply Cover.cons | apply Take.there))
                    · refine g_seq ?_
                      refine g_region ?_
                      refine g_pure (p_eql rfl rfl) rfl ?_
                      refine g_pure (p_assign rfl) rfl ?_
                      refine g_nil ?_
                      refine g_qt ?_
                      refine g_ifdL rfl (fun h11 => ?_) (fun h11 => ?_)
                      · refine g_seq ?_
                        refine g_region ?_
                        refine g_pure (p_fieldAddr rfl) rfl ?_
                        first | refine g_pure (p_loadO (by rfl) rfl (by first | (apply Has.own; (repeat' (first | exact Take.here | apply Take.there)); done) | exact Has.ro (by assumption)) (by rfl)) rfl ?_ | refine g_pure (p_loadN (by rfl) rfl (by first | (apply Has.own; (repeat' (first | exact Take.here | apply Take.there)); done) | exact Has.ro (by assumption)) (by first | rfl | assumption)) rfl ?_
                        refine g_pure (p_fieldAddr rfl) rfl ?_
                        first | refine g_pure (p_loadO (by rfl) rfl (by first | (apply Has.own; (repeat' (first | exact Take.here | apply Take.there)); done) | exact Has.ro (by assumption)) (by rfl)) rfl ?_ | refine g_pure (p_loadN (by rfl) rfl (by first | (apply Has.own; (repeat' (first | exact Take.here | apply Take.there)); done) | exact Has.ro (by assumption)) (by first | rfl | assumption)) rfl ?_
                        refine g_call (Hin := []) (Hr := ?hr33) (R := ?rr33) rfl rfl rfl ?hin33 ?hc33 ?hk33
                        case hin33 => repeat' (first | exact Cover.nil | exact Take.here | apply Cover.cons | apply Take.there)
                        case hc33 => intro ρ' hρ hR; exact meet_ok _ _ _ _
                        rintro _ _ ⟨m1, m2, rfl, hm, rfl⟩
                        refine g_call (Hin := []) (Hr := ?hr34) (R := ?rr34) rfl rfl rfl ?hin34 ?hc34 ?hk34
                        case hin34 => repeat' (first | exact Cover.nil | exact Take.here | apply Cover.cons | apply Take.there)
                        case hc34 => intro ρ' hρ hR; exact empty_ok _ _
                        rintro _ _ ⟨rfl, rfl⟩
                        refine g_call (Hin := []) (Hr := ?hr35) (R := ?rr35) rfl rfl rfl ?hin35 ?hc35 ?hk35
                        case hin35 => repeat' (first | exact Cover.nil | exact Take.here | apply Cover.cons | apply Take.there)
                        case hc35 => intro ρ' hρ hR; exact about_ok _ _
                        rintro _ _ ⟨u1, u2, rfl, hu, rfl⟩
                        first | refine g_eff0 (e_storeO rfl rfl (by rfl) (by rfl) (by rfl) (by repeat' (first | exact Take.here | apply Take.there)) (by rfl)) (fun _ _ => ?_) | refine g_eff0 (e_storeN rfl rfl (by rfl) (by rfl) (by rfl) (by repeat' (first | exact Take.here | apply Take.there)) (by simp)) (fun _ _ => ?_)
                        rintro rfl
                        refine g_nil ?_
                        refine g_qt ?_
                        refine g_ret ?_
                        refine g_qb_ret ?_
                        refine g_qt_ret ?_
                        exact g_post (rs := [.cell 6 26]) rfl (Res.cellN (by rfl) rfl (Has.own (by repeat' (first | exact Take.here | apply Take.there))) (by rfl) .nil) ⟨_, _, rfl, by first | exact hu | (unfold computeS; (repeat' (first | rw [if_pos (by omega)] | rw [if_neg (by omega)])); first | done | exact hu | (rw [hm]; exact hu) | (rw [mul4]; exact hu)), rfl⟩ (by repeat' (first | exact Cover.nil | exact Take.here | apply Cover.cons | apply Take.there))
                      · refine g_seq ?_
                        refine g_region ?_
                        refine g_pure (p_eql rfl rfl) rfl ?_
                        refine g_pure (p_assign rfl) rfl ?_
                        refine g_nil ?_
                        refine g_qt ?_
                        refine g_ifdL rfl (fun h12 => ?_) (fun h12 => ?_)
                        · refine g_seq ?_
                          refine g_region ?_
                          refine g_pure (p_fieldAddr rfl) rfl ?_
                          refine g_pure (p_fieldAddr rfl) rfl ?_
                          refine g_pure (p_load (by rfl) rfl (by first | (apply Has.own; (repeat' (first | exact Take.here | apply Take.there)); done) | exact Has.ro (by assumption)) (by first | rfl | assumption)) rfl ?_
                          refine g_pure (p_fieldAddr rfl) rfl ?_
                          refine g_pure (p_fieldAddr rfl) rfl ?_
                          refine g_pure (p_load (by rfl) rfl (by first | (apply Has.own; (repeat' (first | exact Take.here | apply Take.there)); done) | exact Has.ro (by assumption)) (by first | rfl | assumption)) rfl ?_
                          refine g_pure (p_lss rfl rfl) rfl ?_
                          refine g_pure (p_fieldAddr rfl) rfl ?_
                          refine g_pure (p_fieldAddr rfl) rfl ?_
                          refine g_pure (p_load (by rfl) rfl (by first | (apply Has.own; (repeat' (first | exact Take.here | apply Take.there)); done) | exact Has.ro (by assumption)) (by first | rfl | assumption)) rfl ?_
                          refine g_pure (p_fieldAddr rfl) rfl ?_
                          refine g_pure (p_fieldAddr rfl) rfl ?_
                          refine g_pure (p_load (by rfl) rfl (by first | (apply Has.own; (repeat' (first | exact Take.here | apply Take.there)); done) | exact Has.ro (by assumption)) (by first | rfl | assumption)) rfl ?_
                          refine g_pure (p_geq rfl rfl) rfl ?_
                          refine g_call (Hin := []) (Hr := ?hr36) (R := ?rr36) rfl rfl rfl ?hin36 ?hc36 ?hk36
                          case hin36 => repeat' (first | exact Cover.nil | exact Take.here | apply Cover.cons | apply Take.there)
                          case hc36 => intro ρ' hρ hR; exact about_ok _ _
                          rintro _ _ ⟨u1, u2, rfl, hu, rfl⟩
                          first | refine g_eff0 (e_storeO rfl rfl (by rfl) (by rfl) (by rfl) (by repeat' (first | exact Take.here | apply Take.there)) (by rfl)) (fun _ _ => ?_) | refine g_eff0 (e_storeN rfl rfl (by rfl) (by rfl) (by rfl) (by repeat' (first | exact Take.here | apply Take.there)) (by simp)) (fun _ _ => ?_)
                          rintro rfl
                          refine g_nil ?_
                          refine g_qt ?_
                          refine g_ret ?_
                          refine g_qb_ret ?_
                          refine g_qt_ret ?_
                          exact g_post (rs := [.cell 6 26]) rfl (Res.cellN (by rfl) rfl (Has.own (by repeat' (first | exact Take.here | apply Take.there))) (by rfl) .nil) ⟨_, _, rfl, by first | exact hu | (unfold computeS; (repeat' (first | rw [if_pos (by omega)] | rw [if_neg (by omega)])); first | done | exact hu | (rw [hm]; exact hu) | (rw [mul4]; exact hu)), rfl⟩ (by repeat' (first | exact Cover.nil | exact Take.here | apply Cover.cons | apply Take.there))
                        · refine g_seq ?_
                          refine g_region ?_
                          refine g_pure (p_eql rfl rfl) rfl ?_
                          refine g_pure (p_assign rfl) rfl ?_
                          refine g_nil ?_
                          refine g_qt ?_
                          refine g_ifdL rfl (fun h13 => ?_) (fun h13 => ?_)
                          · refine g_seq ?_
                            refine g_region ?_
                            refine g_pure (p_fieldAddr rfl) rfl ?_
                            refine g_pure (p_fieldAddr rfl) rfl ?_
                            refine g_pure (p_load (by rfl) rfl (by first | (apply Has.own; (repeat' (first | exact Take.here | apply Take.there)); done) | exact Has.ro (by assumption)) (by first | rfl | assumption)) rfl ?_
                            refine g_pure (p_fieldAddr rfl) rfl ?_
                            refine g_pure (p_fieldAddr rfl) rfl ?_
                            refine g_pure (p_load (by rfl) rfl (by first | (apply Has.own; (repeat' (first | exact Take.here | apply Take.there)); done) | exact Has.ro (by assumption)) (by first | rfl | assumption)) rfl ?_
                            refine g_pure (p_leq rfl rfl) rfl ?_
                            refine g_pure (p_fieldAddr rfl) rfl ?_
                            refine g_pure (p_fieldAddr rfl) rfl ?_
                            refine g_pure (p_load (by rfl) rfl (by first | (apply Has.own; (repeat' (first | exact Take.here | apply Take.there)); done) | exact Has.ro (by assumption)) (by first | rfl | assumption)) rfl ?_
                            refine g_pure (p_fieldAddr rfl) rfl ?_
                            refine g_pure (p_fieldAddr rfl) rfl ?_
                            refine g_pure (p_load (by rfl) rfl (by first | (apply Has.own; (repeat' (first | exact Take.here | apply Take.there)); done) | exact Has.ro (by assumption)) (by first | rfl | assumption)) rfl ?_
                            refine g_pure (p_gtr rfl rfl) rfl ?_
                            refine g_call (Hin := []) (Hr := ?hr37) (R := ?rr37) rfl rfl rfl ?hin37 ?hc37 ?hk37
                            case hin37 => repeat' (first | exact Cover.nil | exact Take.here | apply Cover.cons | apply Take.there)
                            case hc37 => intro ρ' hρ hR; exact about_ok _ _
                            rintro _ _ ⟨u1, u2, rfl, hu, rfl⟩
                            first | refine g_eff0 (e_storeO rfl rfl (by rfl) (by rfl) (by rfl) (by repeat' (first | exact Take.here | apply Take.there)) (by rfl)) (fun _ _ => ?_) | refine g_eff0 (e_storeN rfl rfl (by rfl) (by rfl) (by rfl) (by repeat' (first | exact Take.here | apply Take.there)) (by simp)) (fun _ _ => ?_)
                            rintro rfl
                            refine g_nil ?_
                            refine g_qt ?_
                            refine g_ret ?_
                            refine g_qb_ret ?_
                            refine g_qt_ret ?_
                            exact g_post (rs := [.cell 6 26]) rfl (Res.cellN (by rfl) rfl (Has.own (by repeat' (first | exact Take.here | apply Take.there))) (by rfl) .nil) ⟨_, _, rfl, by first | exact hu | (unfold computeS; (repeat' (first | rw [if_pos (by omega)] | rw [if_neg (by omega)])); first | done | exact hu | (rw [hm]; exact hu) | (rw [mul4]; exact hu)), rfl⟩ (by repeat' (first | exact Cover.nil | exact Take.here | apply Cover.cons | apply Take.there))
                          · refine g_seq ?_
                            refine g_region ?_
                            refine g_pure (p_eql rfl rfl) rfl ?_
                            refine g_pure (p_assign rfl) rfl ?_
                            refine g_nil ?_
                            refine g_qt ?_
                            refine g_ifdL rfl (fun h14 => ?_) (fun h14 => ?_)
                            · refine g_seq ?_
                              refine g_region ?_
                              first | refine g_pure (p_loadO (by rfl) rfl (by first | (apply Has.own; (repeat' (first | exact Take.here | apply Take.there)); done) | exact Has.ro (by assumption)) (by rfl)) rfl ?_ | refine g_pure (p_loadN (by rfl) rfl (by first | (apply Has.own; (repeat' (first | exact Take.here | apply Take.there)); done) | exact Has.ro (by assumption)) (by first | rfl | assumption)) rfl ?_
                              first | refine g_pure (p_loadO (by rfl) rfl (by first | (apply Has.own; (repeat' (first | exact Take.here | apply Take.there)); done) | exact Has.ro (by assumption)) (by rfl)) rfl ?_ | refine g_pure (p_loadN (by rfl) rfl (by first | (apply Has.own; (repeat' (first | exact Take.here | apply Take.there)); done) | exact Has.ro (by assumption)) (by first | rfl | assumption)) rfl ?_
                              refine g_call (Hin := []) (Hr := ?hr38) (R := ?rr38) rfl rfl rfl ?hin38 ?hc38 ?hk38
                              case hin38 => repeat' (first | exact Cover.nil | exact Take.here | apply Cover.cons | apply Take.there)
                              case hc38 => intro ρ' hρ hR; exact r13 (by omega) _
                              rintro _ _ ⟨u1, u2, rfl, hu, rfl⟩
                              first | refine g_eff0 (e_storeO rfl rfl (by rfl) (by rfl) (by rfl) (by repeat' (first | exact Take.here | apply Take.there)) (by rfl)) (fun _ _ => ?_) | refine g_eff0 (e_storeN rfl rfl (by rfl) (by rfl) (by rfl) (by repeat' (first | exact Take.here | apply Take.there)) (by simp)) (fun _ _ => ?_)
                              rintro rfl
                              refine g_nil ?_
                              refine g_qt ?_
                              refine g_ret ?_
                              refine g_qb_ret ?_
                              refine g_qt_ret ?_
                              exact g_post (rs := [.cell 6 26]) rfl (Res.cellN (by rfl) rfl (Has.own (by repeat' (first | exact Take.here | apply Take.there))) (by rfl) .nil) ⟨_, _, rfl, by first | exact hu | (unfold computeS; (repeat' (first | rw [if_pos (by omega)] | rw [if_neg (by omega)])); first | done | exact hu | (rw [hm]; exact hu) | (rw [mul4]; exact hu)), rfl⟩ (by repeat' (first | exact Cover.nil | exact Take.here | apply Cover.cons | apply Take.there))
                            · refine g_seq ?_
                              refine g_region ?_
                              refine g_pure (p_eql rfl rfl) rfl ?_
                              refine g_pure (p_assign rfl) rfl ?_
                              refine g_nil ?_
                              refine g_qt ?_
                              refine g_ifdL rfl (fun h15 => ?_) (fun h15 => ?_)
                              · refine g_seq ?_
                                refine g_region ?_
                                first | refine g_pure (p_loadO (by rfl) rfl (by first | (apply Has.own; (repeat' (first | exact Take.here | apply Take.there)); done) | exact Has.ro (by assumption)) (by rfl)) rfl ?_ | refine g_pure (p_loadN (by rfl) rfl (by first | (apply Has.own; (repeat' (first | exact Take.here | apply Take.there)); done) | exact Has.ro (by assumption)) (by first | rfl | assumption)) rfl ?_
                                first | refine g_pure (p_loadO (by rfl) rfl (by first | (apply Has.own; (repeat' (first | exact Take.here | apply Take.there)); done) | exact Has.ro (by assumption)) (by rfl)) rfl ?_ | refine g_pure (p_loadN (by rfl) rfl (by first | (apply Has.own; (repeat' (first | exact Take.here | apply Take.there)); done) | exact Has.ro (by assumption)) (by first | rfl | assumption)) rfl ?_
                                refine g_call (Hin := []) (Hr := ?hr39) (R := ?rr39) rfl rfl rfl ?hin39 ?hc39 ?hk39
                                case hin39 => repeat' (first | exact Cover.nil | exact Take.here | apply Cover.cons | apply Take.there)
                                case hc39 => intro ρ' hρ hR; exact r14 (by omega) _
                                rintro _ _ ⟨u1, u2, rfl, hu, rfl⟩
                                first | refine g_eff0 (e_storeO rfl rfl (by rfl) (by rfl) (by rfl) (by repeat' (first | exact Take.here | apply Take.there)) (by rfl)) (fun _ _ => ?_) | refine g_eff0 (e_storeN rfl rfl (by rfl) (by rfl) (by rfl) (by repeat' (first | exact Take.here | apply Take.there)) (by simp)) (fun _ _ => ?_)
                                rintro rfl
                                refine g_nil ?_
                                refine g_qt ?_
                                refine g_ret ?_
                                refine g_qb_ret ?_
                                refine g_qt_ret ?_
                                exact g_post (rs := [.cell 6 26]) rfl (Res.cellN (by rfl) rfl (Has.own (by repeat' (first | exact Take.here | apply Take.there))) (by rfl) .nil) ⟨_, _, rfl, by first | exact hu | (unfold computeS; (repeat' (first | rw [if_pos (by omega)] | rw [if_neg (by omega)])); first | done | exact hu | (rw [hm]; exact hu) | (rw [mul4]; exact hu)), rfl⟩ (by repeat' (first | exact Cover.nil | exact Take.here | apply Cover.cons | apply Take.there))
                              · refine g_skip ?_
                                refine g_qb ?_
                                refine g_qt ?_
                                refine g_seq ?_
                                refine g_region ?_
                                refine g_call (Hin := []) (Hr := ?hr40) (R := ?rr40) rfl rfl rfl ?hin40 ?hc40 ?hk40
                                case hin40 => repeat' (first | exact Cover.nil | exact Take.here | apply Cover.cons | apply Take.there)
                                case hc40 => intro ρ' hρ hR; exact of_ok _ _
                                rintro _ _ ⟨u1, u2, rfl, hu, rfl⟩
                                first | refine g_eff0 (e_storeO rfl rfl (by rfl) (by rfl) (by rfl) (by repeat' (first | exact Take.here | apply Take.there)) (by rfl)) (fun _ _ => ?_) | refine g_eff0 (e_storeN rfl rfl (by rfl) (by rfl) (by rfl) (by repeat' (first | exact Take.here | apply Take.there)) (by simp)) (fun _ _ => ?_)
                                rintro rfl
                                refine g_nil ?_
                                refine g_qt ?_
                                refine g_ret ?_
                                exact g_post (rs := [.cell 6 26]) rfl (Res.cellN (by rfl) rfl (Has.own (by repeat' (first | exact Take.here | apply Take.there))) (by rfl) .nil) ⟨_, _, rfl, by first | exact hu | (unfold computeS; (repeat' (first | rw [if_pos (by omega)] | rw [if_neg (by omega)])); first | done | exact hu | (rw [hm]; exact hu) | (rw [mul4]; exact hu)), rfl⟩ (by repeat' (first | exact Cover.nil | exact Take.here | apply Cover.cons | apply Take.there))
theorem scompute_ok {ρ : Nat → Obj → Prop} {op a1 a2 b1 b2 : Int} (h : Opn op (a1, a2) (b1, b2)) : Con Try.prog ρ 25 #[.int .i64 op, .agg #[.int .i64 a1, .int .i64 a2], .agg #[.int .i64 b1, .int .i64 b2]] [] (SpP (computeS op (a1, a2) (b1, b2))) := by
  refine comp_gen h (fun e ρ' => ?_) (fun e ρ' => ?_)
  · subst e
    exact comp_gen (op := 13) ⟨by decide, .inr ((h.2.resolve_left (by decide)).symm)⟩ (fun e => absurd e (by decide)) (fun e => absurd e (by decide))
  · subst e
    exact comp_gen (op := 14) ⟨by decide, .inr ((h.2.resolve_left (by decide)).symm)⟩ (fun e => absurd e (by decide)) (fun e => absurd e (by decide))
end Go.Proofs.Ytlcipnligbjclab
