/- Chapter 40: intervals: the parts of an operator. Conditions: none. -/
import Derived.Test.YtlcipnligbjclaaF2
namespace Go.Z.Val
set_option linter.unusedVariables false
set_option linter.unusedSimpArgs false
set_option linter.unusedSectionVars false
open Go Go.Z
/-- within the numbers of a word -/
def R16 (s : Sp) : Prop := s.1 ≤ s.2 ∧ -32768 ≤ s.1 ∧ s.2 ≤ 32767
end Go.Z.Val
namespace Go.Proofs.Ytlcipnligbjclaa
open Go Go.Z Go.Z.Val

theorem ofp_ok {ρ : Nat → Obj → Prop} {lo hi : Int} (h : lo ≤ hi) : Con Try.prog ρ 21 #[.int .i64 lo, .int .i64 hi] [] (fun v H => v = .agg #[.int .i64 lo, .int .i64 hi] ∧ H = []) :=
  (of_ok lo hi).mono fun v H' ⟨u1, u2, e, hu, hH⟩ => by rw [ofS_of h] at hu; cases hu; exact ⟨e, hH⟩
theorem dofp_ok {ρ : Nat → Obj → Prop} {lo hi : Int} (h : lo ≤ hi) : Con Try.prog ρ 22 #[.int .i64 lo, .int .i64 hi] [] (fun v H => v = .agg #[.int .i64 lo, .int .i64 hi] ∧ H = []) :=
  (dof_ok lo hi).mono fun v H' ⟨u1, u2, e, hu, hH⟩ => by rw [ofS_of h] at hu; cases hu; exact ⟨e, hH⟩
theorem sfullp_ok {ρ : Nat → Obj → Prop} : Con Try.prog ρ 52 #[] [] (fun v H => v = .agg #[.int .i64 (-32768), .int .i64 32767] ∧ H = []) :=
  sfull_ok.mono fun v H' ⟨u1, u2, e, hu, hH⟩ => by cases hu; exact ⟨e, hH⟩
theorem dfullp_ok {ρ : Nat → Obj → Prop} : Con Try.prog ρ 58 #[] [] (fun v H => v = .agg #[.int .i64 (-32768), .int .i64 32767] ∧ H = []) :=
  dfull_ok.mono fun v H' ⟨u1, u2, e, hu, hH⟩ => by cases hu; exact ⟨e, hH⟩

theorem wcut_ok {ρ : Nat → Obj → Prop} (op b1 b2 : Int) : Con Try.prog ρ 35 #[.int .i64 op, .agg #[.int .i64 b1, .int .i64 b2]] [] (SpP (cutS op (b1, b2))) := by
  refine con_intro Try.func35 Try.call35 rfl Try.ntmps35 rfl (L := [(0, _), (1, _)]) rfl fun w hh => ?_
  refine g_seq ?_
  refine g_region ?_
  refine g_eff (e_box rfl (by rfl)) rfl (fun _ _ => ?_)
  rintro ⟨b3, rfl, rfl⟩
  refine g_eff (e_alloc (by rfl)) rfl (fun _ _ => ?_)
  rintro ⟨b4, rfl, rfl⟩
  refine g_nil ?_
  refine g_qt ?_
  refine g_seq ?_
  refine g_seq ?_
  refine g_region ?_
  refine g_pure (p_move rfl) rfl ?_
  refine g_nil ?_
  refine g_qt ?_
  refine g_block ?_
  refine g_seq ?_
  refine g_seq ?_
  refine g_region ?_
  refine g_pure (p_eql rfl rfl) rfl ?_
  refine g_pure (p_assign rfl) rfl ?_
  refine g_nil ?_
  refine g_qt ?_
  refine g_ifdL rfl (fun h1 => ?_) (fun h1 => ?_)
  · refine g_skip ?_
    refine g_qt ?_
    refine g_ift rfl ?_
    refine g_seq ?_
    refine g_region ?_
    first | refine g_pure (p_loadO (by rfl) rfl (by first | (apply Has.own; (repeat' (first | exact Take.here | apply Take.there)); done) | exact Has.ro (by assumption)) (by rfl)) rfl ?_ | refine g_pure (p_loadN (by rfl) rfl (by first | (apply Has.own; (repeat' (first | exact Take.here | apply Take.there)); done) | exact Has.ro (by assumption)) (by first | rfl | assumption)) rfl ?_
    first | refine g_eff0 (e_storeO rfl rfl (by rfl) (by rfl) (by rfl) (by repeat' (first | exact Take.here | apply Take.there)) (by rfl)) (fun _ _ => ?_) | refine g_eff0 (e_storeN rfl rfl (by rfl) (by rfl) (by rfl) (by repeat' (first | exact Take.here | apply Take.there)) (by simp)) (fun _ _ => ?_)
    rintro rfl
    refine g_nil ?_
    refine g_qt ?_
    refine g_ret ?_
    refine g_qb_ret ?_
    refine g_qt_ret ?_
    exact g_post (rs := [.cell 4 25]) rfl (Res.cellN (by rfl) rfl (Has.own (by repeat' (first | exact Take.here | apply Take.there))) (by rfl) .nil) ⟨_, _, rfl, by unfold cutS; first | (rw [if_pos (by omega)]) | (rw [if_neg (by omega), if_pos (by omega)]; exact hu) | (rw [if_neg (by omega), if_neg (by omega)]; exact hu), rfl⟩ (by repeat' (first | exact Cover.nil | exact Take.here | apply Cover.cons | apply Take.there))
  · refine g_region ?_
    refine g_pure (p_eql rfl rfl) rfl ?_
    refine g_pure (p_assign rfl) rfl ?_
    refine g_nil ?_
    refine g_qt ?_
    refine g_ifdL rfl (fun h3 => ?_) (fun h3 => ?_)
    · refine g_seq ?_
      refine g_region ?_
      first | refine g_pure (p_loadO (by rfl) rfl (by first | (apply Has.own; (repeat' (first | exact Take.here | apply Take.there)); done) | exact Has.ro (by assumption)) (by rfl)) rfl ?_ | refine g_pure (p_loadN (by rfl) rfl (by first | (apply Has.own; (repeat' (first | exact Take.here | apply Take.there)); done) | exact Has.ro (by assumption)) (by first | rfl | assumption)) rfl ?_
      first | refine g_eff0 (e_storeO rfl rfl (by rfl) (by rfl) (by rfl) (by repeat' (first | exact Take.here | apply Take.there)) (by rfl)) (fun _ _ => ?_) | refine g_eff0 (e_storeN rfl rfl (by rfl) (by rfl) (by rfl) (by repeat' (first | exact Take.here | apply Take.there)) (by simp)) (fun _ _ => ?_)
      rintro rfl
      refine g_nil ?_
      refine g_qt ?_
      refine g_ret ?_
      refine g_qb_ret ?_
      refine g_qt_ret ?_
      exact g_post (rs := [.cell 4 25]) rfl (Res.cellN (by rfl) rfl (Has.own (by repeat' (first | exact Take.here | apply Take.there))) (by rfl) .nil) ⟨_, _, rfl, by unfold cutS; first | (rw [if_pos (by omega)]) | (rw [if_neg (by omega), if_pos (by omega)]; exact hu) | (rw [if_neg (by omega), if_neg (by omega)]; exact hu), rfl⟩ (by repeat' (first | exact Cover.nil | exact Take.here | apply Cover.cons | apply Take.there))
    · refine g_seq ?_
      refine g_seq ?_
      refine g_region ?_
      refine g_pure (p_eql rfl rfl) rfl ?_
      refine g_pure (p_assign rfl) rfl ?_
      refine g_nil ?_
      refine g_qt ?_
      refine g_ifdL rfl (fun h4 => ?_) (fun h4 => ?_)
      · refine g_skip ?_
        refine g_qt ?_
        refine g_ift rfl ?_
        refine g_seq ?_
        refine m_begin0 (.fl 0 1 (.ef 1 (.ef 2 (.ef 3 .done)))) (by kernel_rfl) (by kernel_rfl) ?_
        first | refine m_float rfl (p_loadO (by rfl) rfl (by first | (apply Has.own; (repeat' (first | exact Take.here | apply Take.there)); done) | exact Has.ro (by assumption)) (by rfl)) rfl ?_ | refine m_float rfl (p_loadN (by rfl) rfl (by first | (apply Has.own; (repeat' (first | exact Take.here | apply Take.there)); done) | exact Has.ro (by assumption)) (by first | rfl | assumption)) rfl ?_
        refine m_call (Hin := []) (Hr := ?hr1) (R := ?rr1) rfl wantedN rfl rfl rfl ?hin1 ?hc1 ?hk1
        case hin1 => repeat' (first | exact Cover.nil | exact Take.here | apply Cover.cons | apply Take.there)
        case hc1 => intro ρ' hρ hR; exact ofp_ok (lo := 0) (hi := 1) (by decide)
        rintro _ _ ⟨rfl, rfl⟩
        refine ⟨.some (by repeat' (first | exact Cover.nil | exact Take.here | apply Cover.cons | apply Take.there)), ?_⟩
        refine m_call (Hin := []) (Hr := ?hr2) (R := ?rr2) rfl wantedN rfl rfl rfl ?hin2 ?hc2 ?hk2
        case hin2 => repeat' (first | exact Cover.nil | exact Take.here | apply Cover.cons | apply Take.there)
        case hc2 => intro ρ' hρ hR; exact meet_ok _ _ _ _
        rintro _ _ ⟨u1, u2, rfl, hu, rfl⟩
        refine ⟨.none (by kernel_rfl), ?_⟩
        first | refine m_eff0 rfl (e_storeO rfl rfl (by rfl) (by rfl) (by rfl) (by repeat' (first | exact Take.here | apply Take.there)) (by rfl)) (fun _ _ => ?_) | refine m_eff0 rfl (e_storeN rfl rfl (by rfl) (by rfl) (by rfl) (by repeat' (first | exact Take.here | apply Take.there)) (by simp)) (fun _ _ => ?_)
        rintro rfl
        refine ⟨.none (by kernel_rfl), ?_⟩
        refine m_nil ?_
        refine g_qt ?_
        refine g_ret ?_
        refine g_qb_ret ?_
        refine g_qt_ret ?_
        exact g_post (rs := [.cell 4 25]) rfl (Res.cellN (by rfl) rfl (Has.own (by repeat' (first | exact Take.here | apply Take.there))) (by rfl) .nil) ⟨_, _, rfl, by unfold cutS; first | (rw [if_pos (by omega)]) | (rw [if_neg (by omega), if_pos (by omega)]; exact hu) | (rw [if_neg (by omega), if_neg (by omega)]; exact hu), rfl⟩ (by repeat' (first | exact Cover.nil | exact Take.here | apply Cover.cons | apply Take.there))
      · refine g_seq ?_
        refine g_region ?_
        refine g_pure (p_eql rfl rfl) rfl ?_
        refine g_pure (p_assign rfl) rfl ?_
        refine g_nil ?_
        refine g_qt ?_
        refine g_ifdL rfl (fun h6 => ?_) (fun h6 => ?_)
        · refine g_skip ?_
          refine g_qt ?_
          refine g_ift rfl ?_
          refine g_seq ?_
          refine m_begin0 (.fl 0 1 (.ef 1 (.ef 2 (.ef 3 .done)))) (by kernel_rfl) (by kernel_rfl) ?_
          first | refine m_float rfl (p_loadO (by rfl) rfl (by first | (apply Has.own; (repeat' (first | exact Take.here | apply Take.there)); done) | exact Has.ro (by assumption)) (by rfl)) rfl ?_ | refine m_float rfl (p_loadN (by rfl) rfl (by first | (apply Has.own; (repeat' (first | exact Take.here | apply Take.there)); done) | exact Has.ro (by assumption)) (by first | rfl | assumption)) rfl ?_
          refine m_call (Hin := []) (Hr := ?hr3) (R := ?rr3) rfl wantedN rfl rfl rfl ?hin3 ?hc3 ?hk3
          case hin3 => repeat' (first | exact Cover.nil | exact Take.here | apply Cover.cons | apply Take.there)
          case hc3 => intro ρ' hρ hR; exact ofp_ok (lo := 0) (hi := 1) (by decide)
          rintro _ _ ⟨rfl, rfl⟩
          refine ⟨.some (by repeat' (first | exact Cover.nil | exact Take.here | apply Cover.cons | apply Take.there)), ?_⟩
          refine m_call (Hin := []) (Hr := ?hr4) (R := ?rr4) rfl wantedN rfl rfl rfl ?hin4 ?hc4 ?hk4
          case hin4 => repeat' (first | exact Cover.nil | exact Take.here | apply Cover.cons | apply Take.there)
          case hc4 => intro ρ' hρ hR; exact meet_ok _ _ _ _
          rintro _ _ ⟨u1, u2, rfl, hu, rfl⟩
          refine ⟨.none (by kernel_rfl), ?_⟩
          first | refine m_eff0 rfl (e_storeO rfl rfl (by rfl) (by rfl) (by rfl) (by repeat' (first | exact Take.here | apply Take.there)) (by rfl)) (fun _ _ => ?_) | refine m_eff0 rfl (e_storeN rfl rfl (by rfl) (by rfl) (by rfl) (by repeat' (first | exact Take.here | apply Take.there)) (by simp)) (fun _ _ => ?_)
          rintro rfl
          refine ⟨.none (by kernel_rfl), ?_⟩
          refine m_nil ?_
          refine g_qt ?_
          refine g_ret ?_
          refine g_qb_ret ?_
          refine g_qt_ret ?_
          exact g_post (rs := [.cell 4 25]) rfl (Res.cellN (by rfl) rfl (Has.own (by repeat' (first | exact Take.here | apply Take.there))) (by rfl) .nil) ⟨_, _, rfl, by unfold cutS; first | (rw [if_pos (by omega)]) | (rw [if_neg (by omega), if_pos (by omega)]; exact hu) | (rw [if_neg (by omega), if_neg (by omega)]; exact hu), rfl⟩ (by repeat' (first | exact Cover.nil | exact Take.here | apply Cover.cons | apply Take.there))
        · refine g_seq ?_
          refine g_region ?_
          refine g_pure (p_eql rfl rfl) rfl ?_
          refine g_pure (p_assign rfl) rfl ?_
          refine g_nil ?_
          refine g_qt ?_
          refine g_ifdL rfl (fun h8 => ?_) (fun h8 => ?_)
          · refine g_skip ?_
            refine g_qt ?_
            refine g_ift rfl ?_
            refine g_seq ?_
            refine m_begin0 (.fl 0 1 (.ef 1 (.ef 2 (.ef 3 .done)))) (by kernel_rfl) (by kernel_rfl) ?_
            first | refine m_float rfl (p_loadO (by rfl) rfl (by first | (apply Has.own; (repeat' (first | exact Take.here | apply Take.there)); done) | exact Has.ro (by assumption)) (by rfl)) rfl ?_ | refine m_float rfl (p_loadN (by rfl) rfl (by first | (apply Has.own; (repeat' (first | exact Take.here | apply Take.there)); done) | exact Has.ro (by assumption)) (by first | rfl | assumption)) rfl ?_
            refine m_call (Hin := []) (Hr := ?hr5) (R := ?rr5) rfl wantedN rfl rfl rfl ?hin5 ?hc5 ?hk5
            case hin5 => repeat' (first | exact Cover.nil | exact Take.here | apply Cover.cons | apply Take.there)
            case hc5 => intro ρ' hρ hR; exact ofp_ok (lo := 0) (hi := 1) (by decide)
            rintro _ _ ⟨rfl, rfl⟩
            refine ⟨.some (by repeat' (first | exact Cover.nil | exact Take.here | apply Cover.cons | apply Take.there)), ?_⟩
            refine m_call (Hin := []) (Hr := ?hr6) (R := ?rr6) rfl wantedN rfl rfl rfl ?hin6 ?hc6 ?hk6
            case hin6 => repeat' (first | exact Cover.nil | exact Take.here | apply Cover.cons | apply Take.there)
            case hc6 => intro ρ' hρ hR; exact meet_ok _ _ _ _
            rintro _ _ ⟨u1, u2, rfl, hu, rfl⟩
            refine ⟨.none (by kernel_rfl), ?_⟩
            first | refine m_eff0 rfl (e_storeO rfl rfl (by rfl) (by rfl) (by rfl) (by repeat' (first | exact Take.here | apply Take.there)) (by rfl)) (fun _ _ => ?_) | refine m_eff0 rfl (e_storeN rfl rfl (by rfl) (by rfl) (by rfl) (by repeat' (first | exact Take.here | apply Take.there)) (by simp)) (fun _ _ => ?_)
            rintro rfl
            refine ⟨.none (by kernel_rfl), ?_⟩
            refine m_nil ?_
            refine g_qt ?_
            refine g_ret ?_
            refine g_qb_ret ?_
            refine g_qt_ret ?_
            exact g_post (rs := [.cell 4 25]) rfl (Res.cellN (by rfl) rfl (Has.own (by repeat' (first | exact Take.here | apply Take.there))) (by rfl) .nil) ⟨_, _, rfl, by unfold cutS; first | (rw [if_pos (by omega)]) | (rw [if_neg (by omega), if_pos (by omega)]; exact hu) | (rw [if_neg (by omega), if_neg (by omega)]; exact hu), rfl⟩ (by repeat' (first | exact Cover.nil | exact Take.here | apply Cover.cons | apply Take.there))
          · refine g_region ?_
            refine g_pure (p_eql rfl rfl) rfl ?_
            refine g_pure (p_assign rfl) rfl ?_
            refine g_nil ?_
            refine g_qt ?_
            refine g_ifdL rfl (fun h10 => ?_) (fun h10 => ?_)
            · refine g_seq ?_
              refine m_begin0 (.fl 0 1 (.ef 1 (.ef 2 (.ef 3 .done)))) (by kernel_rfl) (by kernel_rfl) ?_
              first | refine m_float rfl (p_loadO (by rfl) rfl (by first | (apply Has.own; (repeat' (first | exact Take.here | apply Take.there)); done) | exact Has.ro (by assumption)) (by rfl)) rfl ?_ | refine m_float rfl (p_loadN (by rfl) rfl (by first | (apply Has.own; (repeat' (first | exact Take.here | apply Take.there)); done) | exact Has.ro (by assumption)) (by first | rfl | assumption)) rfl ?_
              refine m_call (Hin := []) (Hr := ?hr7) (R := ?rr7) rfl wantedN rfl rfl rfl ?hin7 ?hc7 ?hk7
              case hin7 => repeat' (first | exact Cover.nil | exact Take.here | apply Cover.cons | apply Take.there)
              case hc7 => intro ρ' hρ hR; exact ofp_ok (lo := 0) (hi := 1) (by decide)
              rintro _ _ ⟨rfl, rfl⟩
              refine ⟨.some (by repeat' (first | exact Cover.nil | exact Take.here | apply Cover.cons | apply Take.there)), ?_⟩
              refine m_call (Hin := []) (Hr := ?hr8) (R := ?rr8) rfl wantedN rfl rfl rfl ?hin8 ?hc8 ?hk8
              case hin8 => repeat' (first | exact Cover.nil | exact Take.here | apply Cover.cons | apply Take.there)
              case hc8 => intro ρ' hρ hR; exact meet_ok _ _ _ _
              rintro _ _ ⟨u1, u2, rfl, hu, rfl⟩
              refine ⟨.none (by kernel_rfl), ?_⟩
              first | refine m_eff0 rfl (e_storeO rfl rfl (by rfl) (by rfl) (by rfl) (by repeat' (first | exact Take.here | apply Take.there)) (by rfl)) (fun _ _ => ?_) | refine m_eff0 rfl (e_storeN rfl rfl (by rfl) (by rfl) (by rfl) (by repeat' (first | exact Take.here | apply Take.there)) (by simp)) (fun _ _ => ?_)
              rintro rfl
              refine ⟨.none (by kernel_rfl), ?_⟩
              refine m_nil ?_
              refine g_qt ?_
              refine g_ret ?_
              refine g_qb_ret ?_
              refine g_qt_ret ?_
              exact g_post (rs := [.cell 4 25]) rfl (Res.cellN (by rfl) rfl (Has.own (by repeat' (first | exact Take.here | apply Take.there))) (by rfl) .nil) ⟨_, _, rfl, by unfold cutS; first | (rw [if_pos (by omega)]) | (rw [if_neg (by omega), if_pos (by omega)]; exact hu) | (rw [if_neg (by omega), if_neg (by omega)]; exact hu), rfl⟩ (by repeat' (first | exact Cover.nil | exact Take.here | apply Cover.cons | apply Take.there))
            · refine g_skip ?_
              refine g_qb ?_
              refine g_qt ?_
              refine g_seq ?_
              refine m_begin0 (.fl 0 1 (.ef 1 (.ef 2 (.ef 3 .done)))) (by kernel_rfl) (by kernel_rfl) ?_
              first | refine m_float rfl (p_loadO (by rfl) rfl (by first | (apply Has.own; (repeat' (first | exact Take.here | apply Take.there)); done) | exact Has.ro (by assumption)) (by rfl)) rfl ?_ | refine m_float rfl (p_loadN (by rfl) rfl (by first | (apply Has.own; (repeat' (first | exact Take.here | apply Take.there)); done) | exact Has.ro (by assumption)) (by first | rfl | assumption)) rfl ?_
              refine m_call (Hin := []) (Hr := ?hr9) (R := ?rr9) rfl wantedN rfl rfl rfl ?hin9 ?hc9 ?hk9
              case hin9 => repeat' (first | exact Cover.nil | exact Take.here | apply Cover.cons | apply Take.there)
              case hc9 => intro ρ' hρ hR; exact sfullp_ok
              rintro _ _ ⟨rfl, rfl⟩
              refine ⟨.some (by repeat' (first | exact Cover.nil | exact Take.here | apply Cover.cons | apply Take.there)), ?_⟩
              refine m_call (Hin := []) (Hr := ?hr10) (R := ?rr10) rfl wantedN rfl rfl rfl ?hin10 ?hc10 ?hk10
              case hin10 => repeat' (first | exact Cover.nil | exact Take.here | apply Cover.cons | apply Take.there)
              case hc10 => intro ρ' hρ hR; exact meet_ok _ _ _ _
              rintro _ _ ⟨u1, u2, rfl, hu, rfl⟩
              refine ⟨.none (by kernel_rfl), ?_⟩
              first | refine m_eff0 rfl (e_storeO rfl rfl (by rfl) (by rfl) (by rfl) (by repeat' (first | exact Take.here | apply Take.there)) (by rfl)) (fun _ _ => ?_) | refine m_eff0 rfl (e_storeN rfl rfl (by rfl) (by rfl) (by rfl) (by repeat' (first | exact Take.here | apply Take.there)) (by simp)) (fun _ _ => ?_)
              rintro rfl
              refine ⟨.none (by kernel_rfl), ?_⟩
              refine m_nil ?_
              refine g_qt ?_
              refine g_ret ?_
              exact g_post (rs := [.cell 4 25]) rfl (Res.cellN (by rfl) rfl (Has.own (by repeat' (first | exact Take.here | apply Take.there))) (by rfl) .nil) ⟨_, _, rfl, by unfold cutS; first | (rw [if_pos (by omega)]) | (rw [if_neg (by omega), if_pos (by omega)]; exact hu) | (rw [if_neg (by omega), if_neg (by omega)]; exact hu), rfl⟩ (by repeat' (first | exact Cover.nil | exact Take.here | apply Cover.cons | apply Take.there))
theorem dcut_ok {ρ : Nat → Obj → Prop} (op b1 b2 : Int) : Con Try.prog ρ 39 #[.int .i64 op, .agg #[.int .i64 b1, .int .i64 b2]] [] (SpP (cutS op (b1, b2))) := by
  refine con_intro Try.func39 Try.call39 rfl Try.ntmps39 rfl (L := [(0, _), (1, _)]) rfl fun w hh => ?_
  refine g_seq ?_
  refine g_region ?_
  refine g_eff (e_box rfl (by rfl)) rfl (fun _ _ => ?_)
  rintro ⟨b3, rfl, rfl⟩
  refine g_eff (e_alloc (by rfl)) rfl (fun _ _ => ?_)
  rintro ⟨b4, rfl, rfl⟩
  refine g_nil ?_
  refine g_qt ?_
  refine g_seq ?_
  refine g_seq ?_
  refine g_region ?_
  refine g_pure (p_move rfl) rfl ?_
  refine g_nil ?_
  refine g_qt ?_
  refine g_block ?_
  refine g_seq ?_
  refine g_seq ?_
  refine g_region ?_
  refine g_pure (p_eql rfl rfl) rfl ?_
  refine g_pure (p_assign rfl) rfl ?_
  refine g_nil ?_
  refine g_qt ?_
  refine g_ifdL rfl (fun h1 => ?_) (fun h1 => ?_)
  · refine g_skip ?_
    refine g_qt ?_
    refine g_ift rfl ?_
    refine g_seq ?_
    refine m_begin0 (.fl 0 1 (.ef 1 (.ef 2 (.ef 3 .done)))) (by kernel_rfl) (by kernel_rfl) ?_
    first | refine m_float rfl (p_loadO (by rfl) rfl (by first | (apply Has.own; (repeat' (first | exact Take.here | apply Take.there)); done) | exact Has.ro (by assumption)) (by rfl)) rfl ?_ | refine m_float rfl (p_loadN (by rfl) rfl (by first | (apply Has.own; (repeat' (first | exact Take.here | apply Take.there)); done) | exact Has.ro (by assumption)) (by first | rfl | assumption)) rfl ?_
    refine m_call (Hin := []) (Hr := ?hr11) (R := ?rr11) rfl wantedN rfl rfl rfl ?hin11 ?hc11 ?hk11
    case hin11 => repeat' (first | exact Cover.nil | exact Take.here | apply Cover.cons | apply Take.there)
    case hc11 => intro ρ' hρ hR; exact dofp_ok (lo := 0) (hi := 1) (by decide)
    rintro _ _ ⟨rfl, rfl⟩
    refine ⟨.some (by repeat' (first | exact Cover.nil | exact Take.here | apply Cover.cons | apply Take.there)), ?_⟩
    refine m_call (Hin := []) (Hr := ?hr12) (R := ?rr12) rfl wantedN rfl rfl rfl ?hin12 ?hc12 ?hk12
    case hin12 => repeat' (first | exact Cover.nil | exact Take.here | apply Cover.cons | apply Take.there)
    case hc12 => intro ρ' hρ hR; exact dmeet_ok _ _ _ _
    rintro _ _ ⟨u1, u2, rfl, hu, rfl⟩
    refine ⟨.none (by kernel_rfl), ?_⟩
    first | refine m_eff0 rfl (e_storeO rfl rfl (by rfl) (by rfl) (by rfl) (by repeat' (first | exact Take.here | apply Take.there)) (by rfl)) (fun _ _ => ?_) | refine m_eff0 rfl (e_storeN rfl rfl (by rfl) (by rfl) (by rfl) (by repeat' (first | exact Take.here | apply Take.there)) (by simp)) (fun _ _ => ?_)
    rintro rfl
    refine ⟨.none (by kernel_rfl), ?_⟩
    refine m_nil ?_
    refine g_qt ?_
    refine g_ret ?_
    refine g_qb_ret ?_
    refine g_qt_ret ?_
    exact g_post (rs := [.cell 4 25]) rfl (Res.cellN (by rfl) rfl (Has.own (by repeat' (first | exact Take.here | apply Take.there))) (by rfl) .nil) ⟨_, _, rfl, by unfold cutS; first | (rw [if_pos (by omega)]) | (rw [if_neg (by omega), if_pos (by omega)]; exact hu) | (rw [if_neg (by omega), if_neg (by omega)]; exact hu), rfl⟩ (by repeat' (first | exact Cover.nil | exact Take.here | apply Cover.cons | apply Take.there))
  · refine g_seq ?_
    refine g_region ?_
    refine g_pure (p_eql rfl rfl) rfl ?_
    refine g_pure (p_assign rfl) rfl ?_
    refine g_nil ?_
    refine g_qt ?_
    refine g_ifdL rfl (fun h3 => ?_) (fun h3 => ?_)
    · refine g_skip ?_
      refine g_qt ?_
      refine g_ift rfl ?_
      refine g_seq ?_
      refine m_begin0 (.fl 0 1 (.ef 1 (.ef 2 (.ef 3 .done)))) (by kernel_rfl) (by kernel_rfl) ?_
      first | refine m_float rfl (p_loadO (by rfl) rfl (by first | (apply Has.own; (repeat' (first | exact Take.here | apply Take.there)); done) | exact Has.ro (by assumption)) (by rfl)) rfl ?_ | refine m_float rfl (p_loadN (by rfl) rfl (by first | (apply Has.own; (repeat' (first | exact Take.here | apply Take.there)); done) | exact Has.ro (by assumption)) (by first | rfl | assumption)) rfl ?_
      refine m_call (Hin := []) (Hr := ?hr13) (R := ?rr13) rfl wantedN rfl rfl rfl ?hin13 ?hc13 ?hk13
      case hin13 => repeat' (first | exact Cover.nil | exact Take.here | apply Cover.cons | apply Take.there)
      case hc13 => intro ρ' hρ hR; exact dofp_ok (lo := 0) (hi := 1) (by decide)
      rintro _ _ ⟨rfl, rfl⟩
      refine ⟨.some (by repeat' (first | exact Cover.nil | exact Take.here | apply Cover.cons | apply Take.there)), ?_⟩
      refine m_call (Hin := []) (Hr := ?hr14) (R := ?rr14) rfl wantedN rfl rfl rfl ?hin14 ?hc14 ?hk14
      case hin14 => repeat' (first | exact Cover.nil | exact Take.here | apply Cover.cons | apply Take.there)
      case hc14 => intro ρ' hρ hR; exact dmeet_ok _ _ _ _
      rintro _ _ ⟨u1, u2, rfl, hu, rfl⟩
      refine ⟨.none (by kernel_rfl), ?_⟩
      first | refine m_eff0 rfl (e_storeO rfl rfl (by rfl) (by rfl) (by rfl) (by repeat' (first | exact Take.here | apply Take.there)) (by rfl)) (fun _ _ => ?_) | refine m_eff0 rfl (e_storeN rfl rfl (by rfl) (by rfl) (by rfl) (by repeat' (first | exact Take.here | apply Take.there)) (by simp)) (fun _ _ => ?_)
      rintro rfl
      refine ⟨.none (by kernel_rfl), ?_⟩
      refine m_nil ?_
      refine g_qt ?_
      refine g_ret ?_
      refine g_qb_ret ?_
      refine g_qt_ret ?_
      exact g_post (rs := [.cell 4 25]) rfl (Res.cellN (by rfl) rfl (Has.own (by repeat' (first | exact Take.here | apply Take.there))) (by rfl) .nil) ⟨_, _, rfl, by unfold cutS; first | (rw [if_pos (by omega)]) | (rw [if_neg (by omega), if_pos (by omega)]; exact hu) | (rw [if_neg (by omega), if_neg (by omega)]; exact hu), rfl⟩ (by repeat' (first | exact Cover.nil | exact Take.here | apply Cover.cons | apply Take.there))
    · refine g_seq ?_
      refine g_region ?_
      refine g_pure (p_eql rfl rfl) rfl ?_
      refine g_pure (p_assign rfl) rfl ?_
      refine g_nil ?_
      refine g_qt ?_
      refine g_ifdL rfl (fun h5 => ?_) (fun h5 => ?_)
      · refine g_skip ?_
        refine g_qt ?_
        refine g_ift rfl ?_
        refine g_seq ?_
        refine m_begin0 (.fl 0 1 (.ef 1 (.ef 2 (.ef 3 .done)))) (by kernel_rfl) (by kernel_rfl) ?_
        first | refine m_float rfl (p_loadO (by rfl) rfl (by first | (apply Has.own; (repeat' (first | exact Take.here | apply Take.there)); done) | exact Has.ro (by assumption)) (by rfl)) rfl ?_ | refine m_float rfl (p_loadN (by rfl) rfl (by first | (apply Has.own; (repeat' (first | exact Take.here | apply Take.there)); done) | exact Has.ro (by assumption)) (by first | rfl | assumption)) rfl ?_
        refine m_call (Hin := []) (Hr := ?hr15) (R := ?rr15) rfl wantedN rfl rfl rfl ?hin15 ?hc15 ?hk15
        case hin15 => repeat' (first | exact Cover.nil | exact Take.here | apply Cover.cons | apply Take.there)
        case hc15 => intro ρ' hρ hR; exact dofp_ok (lo := 0) (hi := 1) (by decide)
        rintro _ _ ⟨rfl, rfl⟩
        refine ⟨.some (by repeat' (first | exact Cover.nil | exact Take.here | apply Cover.cons | apply Take.there)), ?_⟩
        refine m_call (Hin := []) (Hr := ?hr16) (R := ?rr16) rfl wantedN rfl rfl rfl ?hin16 ?hc16 ?hk16
        case hin16 => repeat' (first | exact Cover.nil | exact Take.here | apply Cover.cons | apply Take.there)
        case hc16 => intro ρ' hρ hR; exact dmeet_ok _ _ _ _
        rintro _ _ ⟨u1, u2, rfl, hu, rfl⟩
        refine ⟨.none (by kernel_rfl), ?_⟩
        first | refine m_eff0 rfl (e_storeO rfl rfl (by rfl) (by rfl) (by rfl) (by repeat' (first | exact Take.here | apply Take.there)) (by rfl)) (fun _ _ => ?_) | refine m_eff0 rfl (e_storeN rfl rfl (by rfl) (by rfl) (by rfl) (by repeat' (first | exact Take.here | apply Take.there)) (by simp)) (fun _ _ => ?_)
        rintro rfl
        refine ⟨.none (by kernel_rfl), ?_⟩
        refine m_nil ?_
        refine g_qt ?_
        refine g_ret ?_
        refine g_qb_ret ?_
        refine g_qt_ret ?_
        exact g_post (rs := [.cell 4 25]) rfl (Res.cellN (by rfl) rfl (Has.own (by repeat' (first | exact Take.here | apply Take.there))) (by rfl) .nil) ⟨_, _, rfl, by unfold cutS; first | (rw [if_pos (by omega)]) | (rw [if_neg (by omega), if_pos (by omega)]; exact hu) | (rw [if_neg (by omega), if_neg (by omega)]; exact hu), rfl⟩ (by repeat' (first | exact Cover.nil | exact Take.here | apply Cover.cons | apply Take.there))
      · refine g_region ?_
        refine g_pure (p_eql rfl rfl) rfl ?_
        refine g_pure (p_assign rfl) rfl ?_
        refine g_nil ?_
        refine g_qt ?_
        refine g_ifdL rfl (fun h7 => ?_) (fun h7 => ?_)
        · refine g_seq ?_
          refine m_begin0 (.fl 0 1 (.ef 1 (.ef 2 (.ef 3 .done)))) (by kernel_rfl) (by kernel_rfl) ?_
          first | refine m_float rfl (p_loadO (by rfl) rfl (by first | (apply Has.own; (repeat' (first | exact Take.here | apply Take.there)); done) | exact Has.ro (by assumption)) (by rfl)) rfl ?_ | refine m_float rfl (p_loadN (by rfl) rfl (by first | (apply Has.own; (repeat' (first | exact Take.here | apply Take.there)); done) | exact Has.ro (by assumption)) (by first | rfl | assumption)) rfl ?_
          refine m_call (Hin := []) (Hr := ?hr17) (R := ?rr17) rfl wantedN rfl rfl rfl ?hin17 ?hc17 ?hk17
          case hin17 => repeat' (first | exact Cover.nil | exact Take.here | apply Cover.cons | apply Take.there)
          case hc17 => intro ρ' hρ hR; exact dofp_ok (lo := 0) (hi := 1) (by decide)
          rintro _ _ ⟨rfl, rfl⟩
          refine ⟨.some (by repeat' (first | exact Cover.nil | exact Take.here | apply Cover.cons | apply Take.there)), ?_⟩
          refine m_call (Hin := []) (Hr := ?hr18) (R := ?rr18) rfl wantedN rfl rfl rfl ?hin18 ?hc18 ?hk18
          case hin18 => repeat' (first | exact Cover.nil | exact Take.here | apply Cover.cons | apply Take.there)
          case hc18 => intro ρ' hρ hR; exact dmeet_ok _ _ _ _
          rintro _ _ ⟨u1, u2, rfl, hu, rfl⟩
          refine ⟨.none (by kernel_rfl), ?_⟩
          first | refine m_eff0 rfl (e_storeO rfl rfl (by rfl) (by rfl) (by rfl) (by repeat' (first | exact Take.here | apply Take.there)) (by rfl)) (fun _ _ => ?_) | refine m_eff0 rfl (e_storeN rfl rfl (by rfl) (by rfl) (by rfl) (by repeat' (first | exact Take.here | apply Take.there)) (by simp)) (fun _ _ => ?_)
          rintro rfl
          refine ⟨.none (by kernel_rfl), ?_⟩
          refine m_nil ?_
          refine g_qt ?_
          refine g_ret ?_
          refine g_qb_ret ?_
          refine g_qt_ret ?_
          exact g_post (rs := [.cell 4 25]) rfl (Res.cellN (by rfl) rfl (Has.own (by repeat' (first | exact Take.here | apply Take.there))) (by rfl) .nil) ⟨_, _, rfl, by unfold cutS; first | (rw [if_pos (by omega)]) | (rw [if_neg (by omega), if_pos (by omega)]; exact hu) | (rw [if_neg (by omega), if_neg (by omega)]; exact hu), rfl⟩ (by repeat' (first | exact Cover.nil | exact Take.here | apply Cover.cons | apply Take.there))
        · refine g_seq ?_
          refine g_seq ?_
          refine g_region ?_
          refine g_pure (p_eql rfl rfl) rfl ?_
          refine g_pure (p_assign rfl) rfl ?_
          refine g_nil ?_
          refine g_qt ?_
          refine g_ifdL rfl (fun h8 => ?_) (fun h8 => ?_)
          · refine g_skip ?_
            refine g_qt ?_
            refine g_ift rfl ?_
            refine g_seq ?_
            refine g_region ?_
            first | refine g_pure (p_loadO (by rfl) rfl (by first | (apply Has.own; (repeat' (first | exact Take.here | apply Take.there)); done) | exact Has.ro (by assumption)) (by rfl)) rfl ?_ | refine g_pure (p_loadN (by rfl) rfl (by first | (apply Has.own; (repeat' (first | exact Take.here | apply Take.there)); done) | exact Has.ro (by assumption)) (by first | rfl | assumption)) rfl ?_
            first | refine g_eff0 (e_storeO rfl rfl (by rfl) (by rfl) (by rfl) (by repeat' (first | exact Take.here | apply Take.there)) (by rfl)) (fun _ _ => ?_) | refine g_eff0 (e_storeN rfl rfl (by rfl) (by rfl) (by rfl) (by repeat' (first | exact Take.here | apply Take.there)) (by simp)) (fun _ _ => ?_)
            rintro rfl
            refine g_nil ?_
            refine g_qt ?_
            refine g_ret ?_
            refine g_qb_ret ?_
            refine g_qt_ret ?_
            exact g_post (rs := [.cell 4 25]) rfl (Res.cellN (by rfl) rfl (Has.own (by repeat' (first | exact Take.here | apply Take.there))) (by rfl) .nil) ⟨_, _, rfl, by unfold cutS; first | (rw [if_pos (by omega)]) | (rw [if_neg (by omega), if_pos (by omega)]; exact hu) | (rw [if_neg (by omega), if_neg (by omega)]; exact hu), rfl⟩ (by repeat' (first | exact Cover.nil | exact Take.here | apply Cover.cons | apply Take.there))
          · refine g_region ?_
            refine g_pure (p_eql rfl rfl) rfl ?_
            refine g_pure (p_assign rfl) rfl ?_
            refine g_nil ?_
            refine g_qt ?_
            refine g_ifdL rfl (fun h10 => ?_) (fun h10 => ?_)
            · refine g_seq ?_
              refine g_region ?_
              first | refine g_pure (p_loadO (by rfl) rfl (by first | (apply Has.own; (repeat' (first | exact Take.here | apply Take.there)); done) | exact Has.ro (by assumption)) (by rfl)) rfl ?_ | refine g_pure (p_loadN (by rfl) rfl (by first | (apply Has.own; (repeat' (first | exact Take.here | apply Take.there)); done) | exact Has.ro (by assumption)) (by first | rfl | assumption)) rfl ?_
              first | refine g_eff0 (e_storeO rfl rfl (by rfl) (by rfl) (by rfl) (by repeat' (first | exact Take.here | apply Take.there)) (by rfl)) (fun _ _ => ?_) | refine g_eff0 (e_storeN rfl rfl (by rfl) (by rfl) (by rfl) (by repeat' (first | exact Take.here | apply Take.there)) (by simp)) (fun _ _ => ?_)
              rintro rfl
              refine g_nil ?_
              refine g_qt ?_
              refine g_ret ?_
              refine g_qb_ret ?_
              refine g_qt_ret ?_
              exact g_post (rs := [.cell 4 25]) rfl (Res.cellN (by rfl) rfl (Has.own (by repeat' (first | exact Take.here | apply Take.there))) (by rfl) .nil) ⟨_, _, rfl, by unfold cutS; first | (rw [if_pos (by omega)]) | (rw [if_neg (by omega), if_pos (by omega)]; exact hu) | (rw [if_neg (by omega), if_neg (by omega)]; exact hu), rfl⟩ (by repeat' (first | exact Cover.nil | exact Take.here | apply Cover.cons | apply Take.there))
            · refine g_skip ?_
              refine g_qb ?_
              refine g_qt ?_
              refine g_seq ?_
              refine m_begin0 (.fl 0 1 (.ef 1 (.ef 2 (.ef 3 .done)))) (by kernel_rfl) (by kernel_rfl) ?_
              first | refine m_float rfl (p_loadO (by rfl) rfl (by first | (apply Has.own; (repeat' (first | exact Take.here | apply Take.there)); done) | exact Has.ro (by assumption)) (by rfl)) rfl ?_ | refine m_float rfl (p_loadN (by rfl) rfl (by first | (apply Has.own; (repeat' (first | exact Take.here | apply Take.there)); done) | exact Has.ro (by assumption)) (by first | rfl | assumption)) rfl ?_
              refine m_call (Hin := []) (Hr := ?hr19) (R := ?rr19) rfl wantedN rfl rfl rfl ?hin19 ?hc19 ?hk19
              case hin19 => repeat' (first | exact Cover.nil | exact Take.here | apply Cover.cons | apply Take.there)
              case hc19 => intro ρ' hρ hR; exact dfullp_ok
              rintro _ _ ⟨rfl, rfl⟩
              refine ⟨.some (by repeat' (first | exact Cover.nil | exact Take.here | apply Cover.cons | apply Take.there)), ?_⟩
              refine m_call (Hin := []) (Hr := ?hr20) (R := ?rr20) rfl wantedN rfl rfl rfl ?hin20 ?hc20 ?hk20
              case hin20 => repeat' (first | exact Cover.nil | exact Take.here | apply Cover.cons | apply Take.there)
              case hc20 => intro ρ' hρ hR; exact dmeet_ok _ _ _ _
              rintro _ _ ⟨u1, u2, rfl, hu, rfl⟩
              refine ⟨.none (by kernel_rfl), ?_⟩
              first | refine m_eff0 rfl (e_storeO rfl rfl (by rfl) (by rfl) (by rfl) (by repeat' (first | exact Take.here | apply Take.there)) (by rfl)) (fun _ _ => ?_) | refine m_eff0 rfl (e_storeN rfl rfl (by rfl) (by rfl) (by rfl) (by repeat' (first | exact Take.here | apply Take.there)) (by simp)) (fun _ _ => ?_)
              rintro rfl
              refine ⟨.none (by kernel_rfl), ?_⟩
              refine m_nil ?_
              refine g_qt ?_
              refine g_ret ?_
              exact g_post (rs := [.cell 4 25]) rfl (Res.cellN (by rfl) rfl (Has.own (by repeat' (first | exact Take.here | apply Take.there))) (by rfl) .nil) ⟨_, _, rfl, by unfold cutS; first | (rw [if_pos (by omega)]) | (rw [if_neg (by omega), if_pos (by omega)]; exact hu) | (rw [if_neg (by omega), if_neg (by omega)]; exact hu), rfl⟩ (by repeat' (first | exact Cover.nil | exact Take.here | apply Cover.cons | apply Take.there))
theorem sone_ok {ρ : Nat → Obj → Prop} (a1 a2 : Int) : Con Try.prog ρ 37 #[.agg #[.int .i64 a1, .int .i64 a2]] [] (fun v H => v = .bool (decide (a1 = a2)) ∧ H = []) := by
  refine con_intro Try.func37 Try.call37 rfl Try.ntmps37 rfl (L := [(0, _)]) rfl fun w hh => ?_
  refine g_seq ?_
  refine g_region ?_
  refine g_eff (e_box rfl (by rfl)) rfl (fun _ _ => ?_)
  rintro ⟨b1, rfl, rfl⟩
  refine g_pure (p_assign rfl) rfl ?_
  refine g_nil ?_
  refine g_qt ?_
  refine g_seq ?_
  refine g_region ?_
  refine g_pure (p_fieldAddr rfl) rfl ?_
  refine g_pure (p_fieldAddr rfl) rfl ?_
  refine g_pure (p_load (by rfl) rfl (by first | (apply Has.own; (repeat' (first | exact Take.here | apply Take.there)); done) | exact Has.ro (by assumption)) (by first | rfl | assumption)) rfl ?_
  refine g_pure (p_fieldAddr rfl) rfl ?_
  refine g_pure (p_fieldAddr rfl) rfl ?_
  refine g_pure (p_load (by rfl) rfl (by first | (apply Has.own; (repeat' (first | exact Take.here | apply Take.there)); done) | exact Has.ro (by assumption)) (by first | rfl | assumption)) rfl ?_
  refine g_pure (p_eql rfl rfl) rfl ?_
  refine g_pure (p_assign rfl) rfl ?_
  refine g_nil ?_
  refine g_qt ?_
  refine g_ret ?_
  exact g_post (Ho := []) (rs := [.tmp 2]) rfl (.tmp rfl .nil) ⟨rfl, rfl⟩ (by repeat' (first | exact Cover.nil | exact Take.here | apply Cover.cons | apply Take.there))
theorem great_ok {ρ : Nat → Obj → Prop} {a1 a2 : Int} (h : R16 (a1, a2)) : Con Try.prog ρ 73 #[.agg #[.int .i64 a1, .int .i64 a2]] [] (fun v H => v = .int .i64 (mostS (a1, a2)) ∧ H = []) := by
  have h' : a1 ≤ a2 ∧ -32768 ≤ a1 ∧ a2 ≤ 32767 := h
  refine con_intro Try.func73 Try.call73 rfl Try.ntmps73 rfl (L := [(0, _)]) rfl fun w hh => ?_
  refine g_seq ?_
  refine g_region ?_
  refine g_eff (e_box rfl (by rfl)) rfl (fun _ _ => ?_)
  rintro ⟨b1, rfl, rfl⟩
  refine g_pure (p_assign rfl) rfl ?_
  refine g_nil ?_
  refine g_qt ?_
  refine g_seq ?_
  refine g_region ?_
  refine g_pure (p_fieldAddr rfl) rfl ?_
  refine g_pure (p_fieldAddr rfl) rfl ?_
  refine g_pure (p_load (by rfl) rfl (by first | (apply Has.own; (repeat' (first | exact Take.here | apply Take.there)); done) | exact Has.ro (by assumption)) (by first | rfl | assumption)) rfl ?_
  first | refine g_pure (p_negi rfl (by omega)) rfl ?_ | refine g_pure (p_neg rfl) rfl ?_
  refine g_pure (p_fieldAddr rfl) rfl ?_
  refine g_pure (p_fieldAddr rfl) rfl ?_
  refine g_pure (p_load (by rfl) rfl (by first | (apply Has.own; (repeat' (first | exact Take.here | apply Take.there)); done) | exact Has.ro (by assumption)) (by first | rfl | assumption)) rfl ?_
  refine g_pure (p_fieldAddr rfl) rfl ?_
  refine g_pure (p_fieldAddr rfl) rfl ?_
  refine g_pure (p_load (by rfl) rfl (by first | (apply Has.own; (repeat' (first | exact Take.here | apply Take.there)); done) | exact Has.ro (by assumption)) (by first | rfl | assumption)) rfl ?_
  first | refine g_pure (p_negi rfl (by omega)) rfl ?_ | refine g_pure (p_neg rfl) rfl ?_
  refine g_pure (p_fieldAddr rfl) rfl ?_
  refine g_pure (p_fieldAddr rfl) rfl ?_
  refine g_pure (p_load (by rfl) rfl (by first | (apply Has.own; (repeat' (first | exact Take.here | apply Take.there)); done) | exact Has.ro (by assumption)) (by first | rfl | assumption)) rfl ?_
  refine g_pure (p_max4 rfl rfl rfl rfl) rfl ?_
  refine g_pure (p_assign rfl) rfl ?_
  refine g_nil ?_
  refine g_qt ?_
  refine g_ret ?_
  exact g_post (Ho := []) (rs := [.tmp 2]) rfl (.tmp rfl .nil) ⟨by show Value.int _ _ = Value.int _ _; congr 1; unfold mostS; dsimp only; omega, rfl⟩ (by repeat' (first | exact Cover.nil | exact Take.here | apply Cover.cons | apply Take.there))
theorem least_ok {ρ : Nat → Obj → Prop} (a b c d : Int) : Con Try.prog ρ 64 #[.int .i64 a, .int .i64 b, .int .i64 c, .int .i64 d] [] (fun v H => v = .int .i64 (min (min a b) (min c d)) ∧ H = []) := by
  refine con_intro Try.func64 Try.call64 rfl Try.ntmps64 rfl (L := [(0, _), (1, _), (2, _), (3, _)]) rfl fun w hh => ?_
  refine g_seq ?_
  refine g_region ?_
  refine g_pure (p_assign rfl) rfl ?_
  refine g_nil ?_
  refine g_qt ?_
  refine g_seq ?_
  refine g_region ?_
  refine g_pure (p_move rfl) rfl ?_
  refine g_pure (p_move rfl) rfl ?_
  refine g_pure (p_min rfl rfl) rfl ?_
  refine g_pure (p_move rfl) rfl ?_
  refine g_pure (p_move rfl) rfl ?_
  refine g_pure (p_min rfl rfl) rfl ?_
  refine g_pure (p_min rfl rfl) rfl ?_
  refine g_pure (p_assign rfl) rfl ?_
  refine g_nil ?_
  refine g_qt ?_
  refine g_ret ?_
  exact g_post (Ho := []) (rs := [.tmp 8]) rfl (.tmp rfl .nil) ⟨rfl, rfl⟩ (by repeat' (first | exact Cover.nil | exact Take.here | apply Cover.cons | apply Take.there))
theorem most_ok {ρ : Nat → Obj → Prop} (a b c d : Int) : Con Try.prog ρ 65 #[.int .i64 a, .int .i64 b, .int .i64 c, .int .i64 d] [] (fun v H => v = .int .i64 (max (max a b) (max c d)) ∧ H = []) := by
  refine con_intro Try.func65 Try.call65 rfl Try.ntmps65 rfl (L := [(0, _), (1, _), (2, _), (3, _)]) rfl fun w hh => ?_
  refine g_seq ?_
  refine g_region ?_
  refine g_pure (p_assign rfl) rfl ?_
  refine g_nil ?_
  refine g_qt ?_
  refine g_seq ?_
  refine g_region ?_
  refine g_pure (p_move rfl) rfl ?_
  refine g_pure (p_move rfl) rfl ?_
  refine g_pure (p_max rfl rfl) rfl ?_
  refine g_pure (p_move rfl) rfl ?_
  refine g_pure (p_move rfl) rfl ?_
  refine g_pure (p_max rfl rfl) rfl ?_
  refine g_pure (p_max rfl rfl) rfl ?_
  refine g_pure (p_assign rfl) rfl ?_
  refine g_nil ?_
  refine g_qt ?_
  refine g_ret ?_
  exact g_post (Ho := []) (rs := [.tmp 8]) rfl (.tmp rfl .nil) ⟨rfl, rfl⟩ (by repeat' (first | exact Cover.nil | exact Take.here | apply Cover.cons | apply Take.there))
theorem wrapped_ok {ρ : Nat → Obj → Prop} (lo hi : Int) (h : lo ≤ hi) : Con Try.prog ρ 54 #[.int .i64 lo, .int .i64 hi] [] (SpP (wrapS lo hi)) := by
  refine con_intro Try.func54 Try.call54 rfl Try.ntmps54 rfl (L := [(0, _), (1, _)]) rfl fun w hh => ?_
  refine g_seq ?_
  refine g_region ?_
  refine g_eff (e_alloc (by rfl)) rfl (fun _ _ => ?_)
  rintro ⟨b4, rfl, rfl⟩
  refine g_nil ?_
  refine g_qt ?_
  refine g_seq ?_
  refine g_seq ?_
  refine g_region ?_
  refine g_pure (p_move rfl) rfl ?_
  refine g_call (Hin := []) (Hr := ?hr21) (R := ?rr21) rfl rfl rfl ?hin21 ?hc21 ?hk21
  case hin21 => repeat' (first | exact Cover.nil | exact Take.here | apply Cover.cons | apply Take.there)
  case hc21 => intro ρ' hρ hR; exact in_ok _
  rintro _ _ ⟨rfl, rfl⟩
  refine g_pure (p_not rfl) rfl ?_
  refine g_pure (p_move rfl) rfl ?_
  refine g_splitnd rfl rfl (fun h1 => ?_) (fun h1 => ?_)
  · refine g_no rfl rfl rfl rfl ?_
    refine g_no rfl rfl rfl rfl ?_
    refine g_no rfl rfl rfl rfl ?_
    first | refine g_pure (p_pickt rfl rfl) rfl ?_ | refine g_pure (p_pickf rfl rfl) rfl ?_
    refine g_nil ?_
    refine g_qt ?_
    refine g_ift rfl ?_
    refine g_seq ?_
    refine g_region ?_
    refine g_call (Hin := []) (Hr := ?hr22) (R := ?rr22) rfl rfl rfl ?hin22 ?hc22 ?hk22
    case hin22 => repeat' (first | exact Cover.nil | exact Take.here | apply Cover.cons | apply Take.there)
    case hc22 => intro ρ' hρ hR; exact sfull_ok
    rintro _ _ ⟨u1, u2, rfl, hu, rfl⟩
    first | refine g_eff0 (e_storeO rfl rfl (by rfl) (by rfl) (by rfl) (by repeat' (first | exact Take.here | apply Take.there)) (by rfl)) (fun _ _ => ?_) | refine g_eff0 (e_storeN rfl rfl (by rfl) (by rfl) (by rfl) (by repeat' (first | exact Take.here | apply Take.there)) (by simp)) (fun _ _ => ?_)
    rintro rfl
    refine g_nil ?_
    refine g_qt ?_
    refine g_ret ?_
    refine g_qt_ret ?_
    exact g_post (rs := [.cell 4 25]) rfl (Res.cellN (by rfl) rfl (Has.own (by repeat' (first | exact Take.here | apply Take.there))) (by rfl) .nil) ⟨_, _, rfl, by unfold wrapS; first | (rw [if_pos (by first | omega | (simp at *; omega))]; exact hu) | (rw [if_neg (by first | omega | (simp at *; omega))]; exact hu), rfl⟩ (by repeat' (first | exact Cover.nil | exact Take.here | apply Cover.cons | apply Take.there))
  · refine g_yes rfl rfl ?_
    refine g_pure (p_move rfl) rfl ?_
    refine g_yes rfl rfl ?_
    refine g_call (Hin := []) (Hr := ?hr23) (R := ?rr23) rfl rfl rfl ?hin23 ?hc23 ?hk23
    case hin23 => repeat' (first | exact Cover.nil | exact Take.here | apply Cover.cons | apply Take.there)
    case hc23 => intro ρ' hρ hR; exact in_ok _
    rintro _ _ ⟨rfl, rfl⟩
    refine g_yes rfl rfl ?_
    refine g_pure (p_not rfl) rfl ?_
    first | refine g_pure (p_pickt rfl rfl) rfl ?_ | refine g_pure (p_pickf rfl rfl) rfl ?_
    refine g_nil ?_
    refine g_qt ?_
    refine g_ifndL rfl (fun h3 => ?_) (fun h3 => ?_)
    · refine g_seq ?_
      refine g_region ?_
      refine g_call (Hin := []) (Hr := ?hr24) (R := ?rr24) rfl rfl rfl ?hin24 ?hc24 ?hk24
      case hin24 => repeat' (first | exact Cover.nil | exact Take.here | apply Cover.cons | apply Take.there)
      case hc24 => intro ρ' hρ hR; exact sfull_ok
      rintro _ _ ⟨u1, u2, rfl, hu, rfl⟩
      first | refine g_eff0 (e_storeO rfl rfl (by rfl) (by rfl) (by rfl) (by repeat' (first | exact Take.here | apply Take.there)) (by rfl)) (fun _ _ => ?_) | refine g_eff0 (e_storeN rfl rfl (by rfl) (by rfl) (by rfl) (by repeat' (first | exact Take.here | apply Take.there)) (by simp)) (fun _ _ => ?_)
      rintro rfl
      refine g_nil ?_
      refine g_qt ?_
      refine g_ret ?_
      refine g_qt_ret ?_
      exact g_post (rs := [.cell 4 25]) rfl (Res.cellN (by rfl) rfl (Has.own (by repeat' (first | exact Take.here | apply Take.there))) (by rfl) .nil) ⟨_, _, rfl, by unfold wrapS; first | (rw [if_pos (by first | omega | (simp at *; omega))]; exact hu) | (rw [if_neg (by first | omega | (simp at *; omega))]; exact hu), rfl⟩ (by repeat' (first | exact Cover.nil | exact Take.here | apply Cover.cons | apply Take.there))
    · refine g_skip ?_
      refine g_qt ?_
      refine g_seq ?_
      refine g_region ?_
      refine g_pure (p_move rfl) rfl ?_
      refine g_pure (p_move rfl) rfl ?_
      refine g_call (Hin := []) (Hr := ?hr25) (R := ?rr25) rfl rfl rfl ?hin25 ?hc25 ?hk25
      case hin25 => repeat' (first | exact Cover.nil | exact Take.here | apply Cover.cons | apply Take.there)
      case hc25 => intro ρ' hρ hR; exact of_ok _ _
      rintro _ _ ⟨u1, u2, rfl, hu, rfl⟩
      first | refine g_eff0 (e_storeO rfl rfl (by rfl) (by rfl) (by rfl) (by repeat' (first | exact Take.here | apply Take.there)) (by rfl)) (fun _ _ => ?_) | refine g_eff0 (e_storeN rfl rfl (by rfl) (by rfl) (by rfl) (by repeat' (first | exact Take.here | apply Take.there)) (by simp)) (fun _ _ => ?_)
      rintro rfl
      refine g_nil ?_
      refine g_qt ?_
      refine g_ret ?_
      exact g_post (rs := [.cell 4 25]) rfl (Res.cellN (by rfl) rfl (Has.own (by repeat' (first | exact Take.here | apply Take.there))) (by rfl) .nil) ⟨_, _, rfl, by unfold wrapS; first | (rw [if_pos (by first | omega | (simp at *; omega))]; exact hu) | (rw [if_neg (by first | omega | (simp at *; omega))]; exact hu), rfl⟩ (by repeat' (first | exact Cover.nil | exact Take.here | apply Cover.cons | apply Take.there))
theorem dwrapped_ok {ρ : Nat → Obj → Prop} (lo hi : Int) : Con Try.prog ρ 63 #[.int .i64 lo, .int .i64 hi] [] (SpP (wrapS lo hi)) := by
  refine con_intro Try.func63 Try.call63 rfl Try.ntmps63 rfl (L := [(0, _), (1, _)]) rfl fun w hh => ?_
  refine g_seq ?_
  refine g_region ?_
  refine g_eff (e_alloc (by rfl)) rfl (fun _ _ => ?_)
  rintro ⟨b4, rfl, rfl⟩
  refine g_nil ?_
  refine g_qt ?_
  refine g_seq ?_
  refine g_seq ?_
  refine g_region ?_
  refine g_pure (p_move rfl) rfl ?_
  refine g_pure (p_lss rfl rfl) rfl ?_
  refine g_pure (p_move rfl) rfl ?_
  refine g_splitd rfl rfl (fun h1 => ?_) (fun h1 => ?_)
  · refine g_no rfl rfl rfl rfl ?_
    refine g_no rfl rfl rfl rfl ?_
    first | refine g_pure (p_pickt rfl rfl) rfl ?_ | refine g_pure (p_pickf rfl rfl) rfl ?_
    refine g_nil ?_
    refine g_qt ?_
    refine g_ift rfl ?_
    refine g_seq ?_
    refine g_region ?_
    refine g_call (Hin := []) (Hr := ?hr26) (R := ?rr26) rfl rfl rfl ?hin26 ?hc26 ?hk26
    case hin26 => repeat' (first | exact Cover.nil | exact Take.here | apply Cover.cons | apply Take.there)
    case hc26 => intro ρ' hρ hR; exact dfull_ok
    rintro _ _ ⟨u1, u2, rfl, hu, rfl⟩
    first | refine g_eff0 (e_storeO rfl rfl (by rfl) (by rfl) (by rfl) (by repeat' (first | exact Take.here | apply Take.there)) (by rfl)) (fun _ _ => ?_) | refine g_eff0 (e_storeN rfl rfl (by rfl) (by rfl) (by rfl) (by repeat' (first | exact Take.here | apply Take.there)) (by simp)) (fun _ _ => ?_)
    rintro rfl
    refine g_nil ?_
    refine g_qt ?_
    refine g_ret ?_
    refine g_qt_ret ?_
    exact g_post (rs := [.cell 4 25]) rfl (Res.cellN (by rfl) rfl (Has.own (by repeat' (first | exact Take.here | apply Take.there))) (by rfl) .nil) ⟨_, _, rfl, by unfold wrapS; first | (rw [if_pos (by first | omega | (simp at *; omega))]; exact hu) | (rw [if_neg (by first | omega | (simp at *; omega))]; exact hu), rfl⟩ (by repeat' (first | exact Cover.nil | exact Take.here | apply Cover.cons | apply Take.there))
  · refine g_yes rfl rfl ?_
    refine g_pure (p_move rfl) rfl ?_
    refine g_yes rfl rfl ?_
    refine g_pure (p_gtr rfl rfl) rfl ?_
    first | refine g_pure (p_pickt rfl rfl) rfl ?_ | refine g_pure (p_pickf rfl rfl) rfl ?_
    refine g_nil ?_
    refine g_qt ?_
    refine g_ifdL rfl (fun h3 => ?_) (fun h3 => ?_)
    · refine g_seq ?_
      refine g_region ?_
      refine g_call (Hin := []) (Hr := ?hr27) (R := ?rr27) rfl rfl rfl ?hin27 ?hc27 ?hk27
      case hin27 => repeat' (first | exact Cover.nil | exact Take.here | apply Cover.cons | apply Take.there)
      case hc27 => intro ρ' hρ hR; exact dfull_ok
      rintro _ _ ⟨u1, u2, rfl, hu, rfl⟩
      first | refine g_eff0 (e_storeO rfl rfl (by rfl) (by rfl) (by rfl) (by repeat' (first | exact Take.here | apply Take.there)) (by rfl)) (fun _ _ => ?_) | refine g_eff0 (e_storeN rfl rfl (by rfl) (by rfl) (by rfl) (by repeat' (first | exact Take.here | apply Take.there)) (by simp)) (fun _ _ => ?_)
      rintro rfl
      refine g_nil ?_
      refine g_qt ?_
      refine g_ret ?_
      refine g_qt_ret ?_
      exact g_post (rs := [.cell 4 25]) rfl (Res.cellN (by rfl) rfl (Has.own (by repeat' (first | exact Take.here | apply Take.there))) (by rfl) .nil) ⟨_, _, rfl, by unfold wrapS; first | (rw [if_pos (by first | omega | (simp at *; omega))]; exact hu) | (rw [if_neg (by first | omega | (simp at *; omega))]; exact hu), rfl⟩ (by repeat' (first | exact Cover.nil | exact Take.here | apply Cover.cons | apply Take.there))
    · refine g_skip ?_
      refine g_qt ?_
      refine g_seq ?_
      refine g_region ?_
      refine g_pure (p_move rfl) rfl ?_
      refine g_pure (p_move rfl) rfl ?_
      refine g_call (Hin := []) (Hr := ?hr28) (R := ?rr28) rfl rfl rfl ?hin28 ?hc28 ?hk28
      case hin28 => repeat' (first | exact Cover.nil | exact Take.here | apply Cover.cons | apply Take.there)
      case hc28 => intro ρ' hρ hR; exact dof_ok _ _
      rintro _ _ ⟨u1, u2, rfl, hu, rfl⟩
      first | refine g_eff0 (e_storeO rfl rfl (by rfl) (by rfl) (by rfl) (by repeat' (first | exact Take.here | apply Take.there)) (by rfl)) (fun _ _ => ?_) | refine g_eff0 (e_storeN rfl rfl (by rfl) (by rfl) (by rfl) (by repeat' (first | exact Take.here | apply Take.there)) (by simp)) (fun _ _ => ?_)
      rintro rfl
      refine g_nil ?_
      refine g_qt ?_
      refine g_ret ?_
      exact g_post (rs := [.cell 4 25]) rfl (Res.cellN (by rfl) rfl (Has.own (by repeat' (first | exact Take.here | apply Take.there))) (by rfl) .nil) ⟨_, _, rfl, by unfold wrapS; first | (rw [if_pos (by first | omega | (simp at *; omega))]; exact hu) | (rw [if_neg (by first | omega | (simp at *; omega))]; exact hu), rfl⟩ (by repeat' (first | exact Cover.nil | exact Take.here | apply Cover.cons | apply Take.there))
theorem about_ok {ρ : Nat → Obj → Prop} (a b : Bool) : Con Try.prog ρ 57 #[.bool a, .bool b] [] (SpP (aboutS a b)) := by
  refine con_intro Try.func57 Try.call57 rfl Try.ntmps57 rfl (L := [(0, _), (1, _)]) rfl fun w hh => ?_
  refine g_seq ?_
  refine g_region ?_
  refine g_eff (e_alloc (by rfl)) rfl (fun _ _ => ?_)
  rintro ⟨b4, rfl, rfl⟩
  refine g_nil ?_
  refine g_qt ?_
  refine g_seq ?_
  refine g_block ?_
  refine g_seq ?_
  refine g_region ?_
  refine g_pure (p_move rfl) rfl ?_
  refine g_pure (p_assign rfl) rfl ?_
  refine g_nil ?_
  refine g_qt ?_
  refine g_ifL rfl (fun h1 => ?_) (fun h1 => ?_)
  · refine g_seq ?_
    refine g_region ?_
    refine g_call (Hin := []) (Hr := ?hr29) (R := ?rr29) rfl rfl rfl ?hin29 ?hc29 ?hk29
    case hin29 => repeat' (first | exact Cover.nil | exact Take.here | apply Cover.cons | apply Take.there)
    case hc29 => intro ρ' hρ hR; exact ofp_ok (lo := 1) (hi := 1) (by decide)
    rintro _ _ ⟨rfl, rfl⟩
    first | refine g_eff0 (e_storeO rfl rfl (by rfl) (by rfl) (by rfl) (by repeat' (first | exact Take.here | apply Take.there)) (by rfl)) (fun _ _ => ?_) | refine g_eff0 (e_storeN rfl rfl (by rfl) (by rfl) (by rfl) (by repeat' (first | exact Take.here | apply Take.there)) (by simp)) (fun _ _ => ?_)
    rintro rfl
    refine g_nil ?_
    refine g_qt ?_
    refine g_ret ?_
    refine g_qb_ret ?_
    refine g_qt_ret ?_
    exact g_post (rs := [.cell 4 25]) rfl (Res.cellN (by rfl) rfl (Has.own (by repeat' (first | exact Take.here | apply Take.there))) (by rfl) .nil) ⟨_, _, rfl, by simp [aboutS, *], rfl⟩ (by repeat' (first | exact Cover.nil | exact Take.here | apply Cover.cons | apply Take.there))
  · refine g_seq ?_
    refine g_region ?_
    refine g_pure (p_move rfl) rfl ?_
    refine g_pure (p_assign rfl) rfl ?_
    refine g_nil ?_
    refine g_qt ?_
    refine g_ifL rfl (fun h2 => ?_) (fun h2 => ?_)
    · refine g_seq ?_
      refine g_region ?_
      refine g_call (Hin := []) (Hr := ?hr30) (R := ?rr30) rfl rfl rfl ?hin30 ?hc30 ?hk30
      case hin30 => repeat' (first | exact Cover.nil | exact Take.here | apply Cover.cons | apply Take.there)
      case hc30 => intro ρ' hρ hR; exact ofp_ok (lo := 0) (hi := 0) (by decide)
      rintro _ _ ⟨rfl, rfl⟩
      first | refine g_eff0 (e_storeO rfl rfl (by rfl) (by rfl) (by rfl) (by repeat' (first | exact Take.here | apply Take.there)) (by rfl)) (fun _ _ => ?_) | refine g_eff0 (e_storeN rfl rfl (by rfl) (by rfl) (by rfl) (by repeat' (first | exact Take.here | apply Take.there)) (by simp)) (fun _ _ => ?_)
      rintro rfl
      refine g_nil ?_
      refine g_qt ?_
      refine g_ret ?_
      refine g_qb_ret ?_
      refine g_qt_ret ?_
      exact g_post (rs := [.cell 4 25]) rfl (Res.cellN (by rfl) rfl (Has.own (by repeat' (first | exact Take.here | apply Take.there))) (by rfl) .nil) ⟨_, _, rfl, by simp [aboutS, *], rfl⟩ (by repeat' (first | exact Cover.nil | exact Take.here | apply Cover.cons | apply Take.there))
    · refine g_skip ?_
      refine g_qb ?_
      refine g_qt ?_
      refine g_seq ?_
      refine g_region ?_
      refine g_call (Hin := []) (Hr := ?hr31) (R := ?rr31) rfl rfl rfl ?hin31 ?hc31 ?hk31
      case hin31 => repeat' (first | exact Cover.nil | exact Take.here | apply Cover.cons | apply Take.there)
      case hc31 => intro ρ' hρ hR; exact ofp_ok (lo := 0) (hi := 1) (by decide)
      rintro _ _ ⟨rfl, rfl⟩
      first | refine g_eff0 (e_storeO rfl rfl (by rfl) (by rfl) (by rfl) (by repeat' (first | exact Take.here | apply Take.there)) (by rfl)) (fun _ _ => ?_) | refine g_eff0 (e_storeN rfl rfl (by rfl) (by rfl) (by rfl) (by repeat' (first | exact Take.here | apply Take.there)) (by simp)) (fun _ _ => ?_)
      rintro rfl
      refine g_nil ?_
      refine g_qt ?_
      refine g_ret ?_
      exact g_post (rs := [.cell 4 25]) rfl (Res.cellN (by rfl) rfl (Has.own (by repeat' (first | exact Take.here | apply Take.there))) (by rfl) .nil) ⟨_, _, rfl, by simp [aboutS, *], rfl⟩ (by repeat' (first | exact Cover.nil | exact Take.here | apply Cover.cons | apply Take.there))
theorem dabout_ok {ρ : Nat → Obj → Prop} (a b : Bool) : Con Try.prog ρ 68 #[.bool a, .bool b] [] (SpP (aboutS a b)) := by
  refine con_intro Try.func68 Try.call68 rfl Try.ntmps68 rfl (L := [(0, _), (1, _)]) rfl fun w hh => ?_
  refine g_seq ?_
  refine g_region ?_
  refine g_eff (e_alloc (by rfl)) rfl (fun _ _ => ?_)
  rintro ⟨b4, rfl, rfl⟩
  refine g_nil ?_
  refine g_qt ?_
  refine g_seq ?_
  refine g_seq ?_
  refine g_region ?_
  refine g_pure (p_move rfl) rfl ?_
  refine g_nil ?_
  refine g_qt ?_
  refine g_ifL rfl (fun h1 => ?_) (fun h1 => ?_)
  · refine g_seq ?_
    refine g_region ?_
    refine g_call (Hin := []) (Hr := ?hr32) (R := ?rr32) rfl rfl rfl ?hin32 ?hc32 ?hk32
    case hin32 => repeat' (first | exact Cover.nil | exact Take.here | apply Cover.cons | apply Take.there)
    case hc32 => intro ρ' hρ hR; exact dofp_ok (lo := 1) (hi := 1) (by decide)
    rintro _ _ ⟨rfl, rfl⟩
    first | refine g_eff0 (e_storeO rfl rfl (by rfl) (by rfl) (by rfl) (by repeat' (first | exact Take.here | apply Take.there)) (by rfl)) (fun _ _ => ?_) | refine g_eff0 (e_storeN rfl rfl (by rfl) (by rfl) (by rfl) (by repeat' (first | exact Take.here | apply Take.there)) (by simp)) (fun _ _ => ?_)
    rintro rfl
    refine g_nil ?_
    refine g_qt ?_
    refine g_ret ?_
    refine g_qt_ret ?_
    exact g_post (rs := [.cell 4 25]) rfl (Res.cellN (by rfl) rfl (Has.own (by repeat' (first | exact Take.here | apply Take.there))) (by rfl) .nil) ⟨_, _, rfl, by simp [aboutS, *], rfl⟩ (by repeat' (first | exact Cover.nil | exact Take.here | apply Cover.cons | apply Take.there))
  · refine g_skip ?_
    refine g_qt ?_
    refine g_seq ?_
    refine g_seq ?_
    refine g_region ?_
    refine g_pure (p_move rfl) rfl ?_
    refine g_nil ?_
    refine g_qt ?_
    refine g_ifL rfl (fun h2 => ?_) (fun h2 => ?_)
    · refine g_seq ?_
      refine g_region ?_
      refine g_call (Hin := []) (Hr := ?hr33) (R := ?rr33) rfl rfl rfl ?hin33 ?hc33 ?hk33
      case hin33 => repeat' (first | exact Cover.nil | exact Take.here | apply Cover.cons | apply Take.there)
      case hc33 => intro ρ' hρ hR; exact dofp_ok (lo := 0) (hi := 0) (by decide)
      rintro _ _ ⟨rfl, rfl⟩
      first | refine g_eff0 (e_storeO rfl rfl (by rfl) (by rfl) (by rfl) (by repeat' (first | exact Take.here | apply Take.there)) (by rfl)) (fun _ _ => ?_) | refine g_eff0 (e_storeN rfl rfl (by rfl) (by rfl) (by rfl) (by repeat' (first | exact Take.here | apply Take.there)) (by simp)) (fun _ _ => ?_)
      rintro rfl
      refine g_nil ?_
      refine g_qt ?_
      refine g_ret ?_
      refine g_qt_ret ?_
      exact g_post (rs := [.cell 4 25]) rfl (Res.cellN (by rfl) rfl (Has.own (by repeat' (first | exact Take.here | apply Take.there))) (by rfl) .nil) ⟨_, _, rfl, by simp [aboutS, *], rfl⟩ (by repeat' (first | exact Cover.nil | exact Take.here | apply Cover.cons | apply Take.there))
    · refine g_skip ?_
      refine g_qt ?_
      refine g_seq ?_
      refine g_region ?_
      refine g_call (Hin := []) (Hr := ?hr34) (R := ?rr34) rfl rfl rfl ?hin34 ?hc34 ?hk34
      case hin34 => repeat' (first | exact Cover.nil | exact Take.here | apply Cover.cons | apply Take.there)
      case hc34 => intro ρ' hρ hR; exact dofp_ok (lo := 0) (hi := 1) (by decide)
      rintro _ _ ⟨rfl, rfl⟩
      first | refine g_eff0 (e_storeO rfl rfl (by rfl) (by rfl) (by rfl) (by repeat' (first | exact Take.here | apply Take.there)) (by rfl)) (fun _ _ => ?_) | refine g_eff0 (e_storeN rfl rfl (by rfl) (by rfl) (by rfl) (by repeat' (first | exact Take.here | apply Take.there)) (by simp)) (fun _ _ => ?_)
      rintro rfl
      refine g_nil ?_
      refine g_qt ?_
      refine g_ret ?_
      exact g_post (rs := [.cell 4 25]) rfl (Res.cellN (by rfl) rfl (Has.own (by repeat' (first | exact Take.here | apply Take.there))) (by rfl) .nil) ⟨_, _, rfl, by simp [aboutS, *], rfl⟩ (by repeat' (first | exact Cover.nil | exact Take.here | apply Cover.cons | apply Take.there))
end Go.Proofs.Ytlcipnligbjclaa
