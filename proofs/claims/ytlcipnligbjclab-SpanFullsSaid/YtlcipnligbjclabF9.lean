/- Chapter 40: intervals: examples. Conditions: none. -/
import Derived.Test.YtlcipnligbjclabF8
namespace Go.Proofs.Ytlcipnligbjclab
set_option linter.unusedVariables false
set_option linter.unusedSimpArgs false
set_option linter.unusedSectionVars false
open Go Go.Z Go.Z.Val

theorem eqSpan (d : Nat) (a b c e : Int) (w : World) : (Op.equalIn (d + 2) 26 (.agg #[.int .i64 a, .int .i64 b]) (.agg #[.int .i64 c, .int .i64 e])).run Try.prog w = .ok (decide (a = c ∧ b = e)) w := by
  have hf : Try.prog.fieldsOf 26 = match Try.t25.desc with | .struct fs => fs | _ => #[] := by kernel_rfl
  have hg : ∀ w, (isAgg 3).run Try.prog w = .ok false w := fun w => TyC.run_agg (ty3) w
  rw [run_equalIn_agg w (d + 1) _ _ _ (by kernel_rfl) (by kernel_rfl), hf]
  have e1 : ∀ i j : Int, (i == j) = decide (i = j) := fun i j => rfl
  have hu : Try.prog.underlying 3 = some (.int .i64) := Try.underlying3
  simp only [Try.t25, Op.eqFields, part, Sem.run_bind, hg, Result.andThen_ok]
  by_cases h1 : a = c <;> by_cases h2 : b = e <;> simp [run_equalIn_int, hu, hg, h1, h2]
theorem eqSpanT (d : Nat) (a b : Int) (w : World) : (Op.equalIn (d + 2) 26 (.agg #[.int .i64 a, .int .i64 b]) (.agg #[.int .i64 a, .int .i64 b])).run Try.prog w = .ok true w := by
  rw [eqSpan]; simp

theorem lof_ok {ρ : Nat → Obj → Prop} (a b : Int) : Con Try.prog ρ 11 #[.int .i64 a, .int .i64 b] [] (fun v H => v = .agg #[.int .i64 a, .int .i64 b] ∧ H = []) := by
  refine con_intro Try.func11 Try.call11 rfl Try.ntmps11 rfl (L := [(0, _), (1, _)]) rfl fun w hh => ?_
  refine g_seq ?_
  refine g_region ?_
  refine g_eff (e_alloc (by rfl)) rfl (fun _ _ => ?_)
  rintro ⟨b4, rfl, rfl⟩
  refine g_nil ?_
  refine g_qt ?_
  refine g_seq ?_
  refine g_region ?_
  refine g_pure (p_move rfl) rfl ?_
  refine g_pure (p_move rfl) rfl ?_
  refine g_pure (p_build (by rfl) rfl (by rfl)) rfl ?_
  first | refine g_eff0 (e_storeO rfl rfl (by rfl) (by rfl) (by rfl) (by repeat' (first | exact Take.here | apply Take.there)) (by rfl)) (fun _ _ => ?_) | refine g_eff0 (e_storeN rfl rfl (by rfl) (by rfl) (by rfl) (by repeat' (first | exact Take.here | apply Take.there)) (by simp)) (fun _ _ => ?_)
  rintro rfl
  refine g_nil ?_
  refine g_qt ?_
  refine g_ret ?_
  exact g_post (rs := [.cell 4 26]) rfl (Res.cellN (by rfl) rfl (Has.own (by repeat' (first | exact Take.here | apply Take.there))) (by rfl) .nil) ⟨rfl, rfl⟩ (by repeat' (first | exact Cover.nil | exact Take.here | apply Cover.cons | apply Take.there))
theorem size1_ok {ρ : Nat → Obj → Prop} : Con Try.prog ρ 16 #[.slice none 0 0, .int .i64 1] [] (fun v H => v = .int .i64 2 ∧ H = []) := by
  refine con_intro Try.func16 Try.call16 rfl Try.ntmps16 rfl (L := [(0, _), (1, _)]) rfl fun w hh => ?_
  refine g_seq ?_
  refine g_region ?_
  refine g_pure (p_assign rfl) rfl ?_
  refine g_nil ?_
  refine g_qt ?_
  refine g_seq ?_
  refine g_seq ?_
  refine g_region ?_
  refine g_pure (p_move rfl) rfl ?_
  refine g_nil ?_
  refine g_qt ?_
  refine g_block ?_
  refine g_seq ?_
  refine g_region ?_
  refine g_pure (p_eql rfl rfl) rfl ?_
  refine g_pure (p_assign rfl) rfl ?_
  refine g_nil ?_
  refine g_qt ?_
  refine g_ift rfl ?_
  refine g_seq ?_
  refine g_region ?_
  refine g_pure (p_assign rfl) rfl ?_
  refine g_nil ?_
  refine g_qt ?_
  refine g_ret ?_
  refine g_qb_ret ?_
  refine g_qt_ret ?_
  exact g_post (Ho := []) (rs := [.tmp 4]) rfl (.tmp rfl .nil) ⟨rfl, rfl⟩ (by repeat' (first | exact Cover.nil | exact Take.here | apply Cover.cons | apply Take.there))
theorem full1_ok {ρ : Nat → Obj → Prop} : Con Try.prog ρ 6 #[.slice none 0 0, .int .i64 1] [] (fun v H => v = .agg #[.int .i64 0, .int .i64 1] ∧ H = []) := by
  refine con_intro Try.func6 Try.call6 rfl Try.ntmps6 rfl (L := [(0, _), (1, _)]) rfl fun w hh => ?_
  refine g_seq ?_
  refine g_region ?_
  refine g_eff (e_alloc (by rfl)) rfl (fun _ _ => ?_)
  rintro ⟨b4, rfl, rfl⟩
  refine g_nil ?_
  refine g_qt ?_
  refine g_seq ?_
  refine g_seq ?_
  refine g_region ?_
  refine g_pure (p_move rfl) rfl ?_
  refine g_pure (p_eql rfl rfl) rfl ?_
  refine g_nil ?_
  refine g_qt ?_
  refine g_iff rfl ?_
  refine g_skip ?_
  refine g_qt ?_
  refine g_seq ?_
  refine g_region ?_
  refine g_pure (p_move rfl) rfl ?_
  refine g_pure (p_move rfl) rfl ?_
  refine g_call (Hin := []) (Hr := ?hr1) (R := ?rr1) rfl rfl rfl ?hin1 ?hc1 ?hk1
  case hin1 => repeat' (first | exact Cover.nil | exact Take.here | apply Cover.cons | apply Take.there)
  case hc1 => intro ρ' hρ hR; exact size1_ok
  rintro _ _ ⟨rfl, rfl⟩
  first | refine g_pure (p_subi rfl rfl (by omega)) rfl ?_ | refine g_pure (p_sub rfl rfl) rfl ?_
  refine g_call (Hin := []) (Hr := ?hr2) (R := ?rr2) rfl rfl rfl ?hin2 ?hc2 ?hk2
  case hin2 => repeat' (first | exact Cover.nil | exact Take.here | apply Cover.cons | apply Take.there)
  case hc2 => intro ρ' hρ hR; exact ofp_ok (lo := 0) (hi := 1) (by decide)
  rintro _ _ ⟨rfl, rfl⟩
  first | refine g_eff0 (e_storeO rfl rfl (by rfl) (by rfl) (by rfl) (by repeat' (first | exact Take.here | apply Take.there)) (by rfl)) (fun _ _ => ?_) | refine g_eff0 (e_storeN rfl rfl (by rfl) (by rfl) (by rfl) (by repeat' (first | exact Take.here | apply Take.there)) (by simp)) (fun _ _ => ?_)
  rintro rfl
  refine g_nil ?_
  refine g_qt ?_
  refine g_ret ?_
  exact g_post (rs := [.cell 4 26]) rfl (Res.cellN (by rfl) rfl (Has.own (by repeat' (first | exact Take.here | apply Take.there))) (by rfl) .nil) ⟨rfl, rfl⟩ (by repeat' (first | exact Cover.nil | exact Take.here | apply Cover.cons | apply Take.there))

theorem awake_ok {ρ : Nat → Obj → Prop} : Con Try.prog ρ 5 #[] [] (fun v H => v = .bool true ∧ H = []) := by
  refine con_intro Try.func5 Try.call5 rfl Try.ntmps5 rfl (L := []) rfl fun w hh => ?_
  refine g_seq ?_
  refine g_region ?_
  refine g_pure (p_assign rfl) rfl ?_
  refine g_nil ?_
  refine g_qt ?_
  refine g_seq ?_
  refine g_region ?_
  refine g_call (Hin := []) (Hr := ?hr3) (R := ?rr3) rfl rfl rfl ?hin3 ?hc3 ?hk3
  case hin3 => repeat' (first | exact Cover.nil | exact Take.here | apply Cover.cons | apply Take.there)
  case hc3 => intro ρ' hρ hR; exact lof_ok _ _
  rintro _ _ ⟨rfl, rfl⟩
  refine g_call (Hin := []) (Hr := ?hr4) (R := ?rr4) rfl rfl rfl ?hin4 ?hc4 ?hk4
  case hin4 => repeat' (first | exact Cover.nil | exact Take.here | apply Cover.cons | apply Take.there)
  case hc4 => intro ρ' hρ hR; exact lof_ok _ _
  rintro _ _ ⟨rfl, rfl⟩
  refine g_eff (e_bs (xs := [.tmp 8, .tmp 9]) rfl rfl rfl (by rfl) (by rfl) rfl (by rfl)) rfl (fun _ _ => ?_)
  rintro ⟨b10, rfl, rfl⟩
  refine g_call (Hin := []) (Hr := ?hr5) (R := ?rr5) rfl rfl rfl ?hin5 ?hc5 ?hk5
  case hin5 => repeat' (first | exact Cover.nil | exact Take.here | apply Cover.cons | apply Take.there)
  case hc5 => intro ρ' hρ hR; exact sapply_ok 6 (args := [(0, 3), (10, 20)]) (RSl.of_blk hR.1.blk (by decide)) (by decide)
  rintro _ _ ⟨u1, u2, e1, rfl, hu, rfl⟩
  refine g_pure (p_move rfl) rfl ?_
  refine g_pure (p_extract rfl rfl) rfl ?_
  refine g_pure (p_extract rfl rfl) rfl ?_
  refine g_eff (e_alloc (by rfl)) rfl (fun _ _ => ?_)
  rintro ⟨b1, rfl, rfl⟩
  first | refine g_eff0 (e_storeO rfl rfl (by rfl) (by rfl) (by rfl) (by repeat' (first | exact Take.here | apply Take.there)) (by rfl)) (fun _ _ => ?_) | refine g_eff0 (e_storeN rfl rfl (by rfl) (by rfl) (by rfl) (by repeat' (first | exact Take.here | apply Take.there)) (by simp)) (fun _ _ => ?_)
  rintro rfl
  refine g_pure (p_assign rfl) rfl ?_
  refine g_nil ?_
  refine g_qt ?_
  refine g_seq ?_
  refine g_region ?_
  refine g_call (Hin := []) (Hr := ?hr6) (R := ?rr6) rfl rfl rfl ?hin6 ?hc6 ?hk6
  case hin6 => repeat' (first | exact Cover.nil | exact Take.here | apply Cover.cons | apply Take.there)
  case hc6 => intro ρ' hρ hR; exact lof_ok _ _
  rintro _ _ ⟨rfl, rfl⟩
  refine g_call (Hin := []) (Hr := ?hr7) (R := ?rr7) rfl rfl rfl ?hin7 ?hc7 ?hk7
  case hin7 => repeat' (first | exact Cover.nil | exact Take.here | apply Cover.cons | apply Take.there)
  case hc7 => intro ρ' hρ hR; exact lof_ok _ _
  rintro _ _ ⟨rfl, rfl⟩
  refine g_eff (e_bs (xs := [.tmp 15, .tmp 16]) rfl rfl rfl (by rfl) (by rfl) rfl (by rfl)) rfl (fun _ _ => ?_)
  rintro ⟨b17, rfl, rfl⟩
  obtain ⟨⟨rfl, rfl⟩, rfl⟩ : (10 = u1 ∧ 23 = u2) ∧ 0 = e1 := by
    have e : applyS 6 [(0, 3), (10, 20)] = ((10, 23), 0) := by decide
    rw [e] at hu; injection hu with q1 q2; injection q1 with q3 q4; exact ⟨⟨q3, q4⟩, q2⟩
  refine g_call (Hin := []) (Hr := ?hr8) (R := ?rr8) rfl rfl rfl ?hin8 ?hc8 ?hk8
  case hin8 => repeat' (first | exact Cover.nil | exact Take.here | apply Cover.cons | apply Take.there)
  case hc8 => intro ρ' hρ hR; exact sapply_ok 10 (args := [(0, 100), (10, 10)]) (RSl.of_blk hR.1.blk (by decide)) (by decide)
  rintro _ _ ⟨u1, u2, e1, rfl, hu2, rfl⟩
  refine g_pure (p_move rfl) rfl ?_
  refine g_pure (p_extract rfl rfl) rfl ?_
  refine g_pure (p_extract rfl rfl) rfl ?_
  refine g_eff (e_alloc (by rfl)) rfl (fun _ _ => ?_)
  rintro ⟨b3, rfl, rfl⟩
  first | refine g_eff0 (e_storeO rfl rfl (by rfl) (by rfl) (by rfl) (by repeat' (first | exact Take.here | apply Take.there)) (by rfl)) (fun _ _ => ?_) | refine g_eff0 (e_storeN rfl rfl (by rfl) (by rfl) (by rfl) (by repeat' (first | exact Take.here | apply Take.there)) (by simp)) (fun _ _ => ?_)
  rintro rfl
  refine g_pure (p_assign rfl) rfl ?_
  refine g_nil ?_
  refine g_qt ?_
  refine g_seq ?_
  refine g_region ?_
  refine g_call (Hin := []) (Hr := ?hr9) (R := ?rr9) rfl rfl rfl ?hin9 ?hc9 ?hk9
  case hin9 => repeat' (first | exact Cover.nil | exact Take.here | apply Cover.cons | apply Take.there)
  case hc9 => intro ρ' hρ hR; exact lof_ok _ _
  rintro _ _ ⟨rfl, rfl⟩
  refine g_call (Hin := []) (Hr := ?hr10) (R := ?rr10) rfl rfl rfl ?hin10 ?hc10 ?hk10
  case hin10 => repeat' (first | exact Cover.nil | exact Take.here | apply Cover.cons | apply Take.there)
  case hc10 => intro ρ' hρ hR; exact lof_ok _ _
  rintro _ _ ⟨rfl, rfl⟩
  refine g_eff (e_bs (xs := [.tmp 22, .tmp 23]) rfl rfl rfl (by rfl) (by rfl) rfl (by rfl)) rfl (fun _ _ => ?_)
  rintro ⟨b24, rfl, rfl⟩
  obtain ⟨⟨rfl, rfl⟩, rfl⟩ : (0 = u1 ∧ 9 = u2) ∧ 0 = e1 := by
    have e : applyS 10 [(0, 100), (10, 10)] = ((0, 9), 0) := by decide
    rw [e] at hu2; injection hu2 with q1 q2; injection q1 with q3 q4; exact ⟨⟨q3, q4⟩, q2⟩
  refine g_call (Hin := []) (Hr := ?hr11) (R := ?rr11) rfl rfl rfl ?hin11 ?hc11 ?hk11
  case hin11 => repeat' (first | exact Cover.nil | exact Take.here | apply Cover.cons | apply Take.there)
  case hc11 => intro ρ' hρ hR; exact sapply_ok 6 (args := [(0, 1), (32767, 32767)]) (RSl.of_blk hR.1.blk (by decide)) (by decide)
  rintro _ _ ⟨u1, u2, e1, rfl, hu3, rfl⟩
  refine g_pure (p_move rfl) rfl ?_
  refine g_pure (p_extract rfl rfl) rfl ?_
  refine g_pure (p_extract rfl rfl) rfl ?_
  refine g_eff (e_alloc (by rfl)) rfl (fun _ _ => ?_)
  rintro ⟨b5, rfl, rfl⟩
  first | refine g_eff0 (e_storeO rfl rfl (by rfl) (by rfl) (by rfl) (by repeat' (first | exact Take.here | apply Take.there)) (by rfl)) (fun _ _ => ?_) | refine g_eff0 (e_storeN rfl rfl (by rfl) (by rfl) (by rfl) (by repeat' (first | exact Take.here | apply Take.there)) (by simp)) (fun _ _ => ?_)
  rintro rfl
  refine g_pure (p_assign rfl) rfl ?_
  refine g_nil ?_
  refine g_qt ?_
  refine g_seq ?_
  refine m_begin0 (.fl 0 1 (.ef 1 (.fl 2 0 (.fl 3 0 (.fl 4 0 (.fl 5 0 (.fl 6 0 (.fl 7 0 (.fl 8 1 (.ef 9 (.fl 10 0 (.fl 11 0 (.fl 12 0 (.fl 13 0 (.fl 14 0 (.fl 15 0 (.fl 16 0 (.fl 17 1 (.ef 18 (.fl 19 0 (.fl 20 0 (.fl 21 0 (.fl 22 0 (.fl 23 0 (.fl 24 0 (.fl 25 0 (.ef 26 (.ef 27 (.ef 28 (.ef 29 (.fl 30 0 (.fl 31 0 (.fl 32 0 (.ef 33 (.ef 34 (.fl 35 0 (.fl 36 0 (.fl 37 0 (.ef 38 (.ef 39 (.ef 40 (.ef 41 (.fl 42 0 (.fl 43 0 (.fl 44 0 (.ef 45 (.ef 46 (.fl 47 0 (.fl 48 0 (.fl 49 0 .done)))))))))))))))))))))))))))))))))))))))))))))))))) (by kernel_rfl) (by kernel_rfl) ?_
  first | refine m_float rfl (p_loadO (by rfl) rfl (by first | (apply Has.own; (repeat' (first | exact Take.here | apply Take.there)); done) | exact Has.ro (by assumption)) (by rfl)) rfl ?_ | refine m_float rfl (p_loadN (by rfl) rfl (by first | (apply Has.own; (repeat' (first | exact Take.here | apply Take.there)); done) | exact Has.ro (by assumption)) (by first | rfl | assumption)) rfl ?_
  refine m_call (Hin := []) (Hr := ?hr12) (R := ?rr12) rfl wantedN rfl rfl rfl ?hin12 ?hc12 ?hk12
  case hin12 => repeat' (first | exact Cover.nil | exact Take.here | apply Cover.cons | apply Take.there)
  case hc12 => intro ρ' hρ hR; exact lof_ok _ _
  rintro _ _ ⟨rfl, rfl⟩
  refine ⟨.some (by repeat' (first | exact Cover.nil | exact Take.here | apply Cover.cons | apply Take.there)), ?_⟩
  refine m_float0 rfl (fun _ _ => p_eqagg (eqSpanT 9998 _ _) (by kernel_rfl) rfl rfl) rfl ?_
  refine m_float0 rfl (fun _ _ => p_move rfl) rfl ?_
  obtain ⟨⟨rfl, rfl⟩, rfl⟩ : (-32768 = u1 ∧ 32767 = u2) ∧ 0 = e1 := by
    have e : applyS 6 [(0, 1), (32767, 32767)] = ((-32768, 32767), 0) := by decide
    rw [e] at hu3; injection hu3 with q1 q2; injection q1 with q3 q4; exact ⟨⟨q3, q4⟩, q2⟩
  refine m_yes0 rfl rfl rfl (fun _ _ => p_move rfl) rfl ?_
  refine m_yes0 rfl rfl rfl (fun _ _ => p_eqlT rfl rfl rfl) rfl ?_
  first | refine m_float0 rfl (fun _ _ => p_pickt rfl rfl) rfl ?_ | refine m_float0 rfl (fun _ _ => p_pickf rfl rfl) rfl ?_
  refine m_float0 rfl (fun _ _ => p_move rfl) rfl ?_
  first | refine m_yes rfl rfl rfl (p_loadO (by rfl) rfl (by first | (apply Has.own; (repeat' (first | exact Take.here | apply Take.there)); done) | exact Has.ro (by assumption)) (by rfl)) rfl ?_ | refine m_yes rfl rfl rfl (p_loadN (by rfl) rfl (by first | (apply Has.own; (repeat' (first | exact Take.here | apply Take.there)); done) | exact Has.ro (by assumption)) (by first | rfl | assumption)) rfl ?_
  refine m_call (Hin := []) (Hr := ?hr13) (R := ?rr13) rfl (wantedY rfl rfl) rfl rfl rfl ?hin13 ?hc13 ?hk13
  case hin13 => repeat' (first | exact Cover.nil | exact Take.here | apply Cover.cons | apply Take.there)
  case hc13 => intro ρ' hρ hR; exact lof_ok _ _
  rintro _ _ ⟨rfl, rfl⟩
  refine ⟨.some (by repeat' (first | exact Cover.nil | exact Take.here | apply Cover.cons | apply Take.there)), ?_⟩
  refine m_yes0 rfl rfl rfl (fun _ _ => p_eqagg (eqSpanT 9998 _ _) (by kernel_rfl) rfl rfl) rfl ?_
  first | refine m_float0 rfl (fun _ _ => p_pickt rfl rfl) rfl ?_ | refine m_float0 rfl (fun _ _ => p_pickf rfl rfl) rfl ?_
  refine m_float0 rfl (fun _ _ => p_move rfl) rfl ?_
  refine m_yes0 rfl rfl rfl (fun _ _ => p_move rfl) rfl ?_
  refine m_yes0 rfl rfl rfl (fun _ _ => p_eqlT rfl rfl rfl) rfl ?_
  first | refine m_float0 rfl (fun _ _ => p_pickt rfl rfl) rfl ?_ | refine m_float0 rfl (fun _ _ => p_pickf rfl rfl) rfl ?_
  refine m_float0 rfl (fun _ _ => p_move rfl) rfl ?_
  first | refine m_yes rfl rfl rfl (p_loadO (by rfl) rfl (by first | (apply Has.own; (repeat' (first | exact Take.here | apply Take.there)); done) | exact Has.ro (by assumption)) (by rfl)) rfl ?_ | refine m_yes rfl rfl rfl (p_loadN (by rfl) rfl (by first | (apply Has.own; (repeat' (first | exact Take.here | apply Take.there)); done) | exact Has.ro (by assumption)) (by first | rfl | assumption)) rfl ?_
  refine m_call (Hin := []) (Hr := ?hr14) (R := ?rr14) rfl (wantedY rfl rfl) rfl rfl rfl ?hin14 ?hc14 ?hk14
  case hin14 => repeat' (first | exact Cover.nil | exact Take.here | apply Cover.cons | apply Take.there)
  case hc14 => intro ρ' hρ hR; exact lof_ok _ _
  rintro _ _ ⟨rfl, rfl⟩
  refine ⟨.some (by repeat' (first | exact Cover.nil | exact Take.here | apply Cover.cons | apply Take.there)), ?_⟩
  refine m_yes0 rfl rfl rfl (fun _ _ => p_eqagg (eqSpanT 9998 _ _) (by kernel_rfl) rfl rfl) rfl ?_
  first | refine m_float0 rfl (fun _ _ => p_pickt rfl rfl) rfl ?_ | refine m_float0 rfl (fun _ _ => p_pickf rfl rfl) rfl ?_
  refine m_float0 rfl (fun _ _ => p_move rfl) rfl ?_
  refine m_yes0 rfl rfl rfl (fun _ _ => p_move rfl) rfl ?_
  refine m_yes0 rfl rfl rfl (fun _ _ => p_eqlT rfl rfl rfl) rfl ?_
  first | refine m_float0 rfl (fun _ _ => p_pickt rfl rfl) rfl ?_ | refine m_float0 rfl (fun _ _ => p_pickf rfl rfl) rfl ?_
  refine m_float0 rfl (fun _ _ => p_move rfl) rfl ?_
  refine m_call (Hin := []) (Hr := ?hr15) (R := ?rr15) rfl (wantedY rfl rfl) rfl rfl rfl ?hin15 ?hc15 ?hk15
  case hin15 => repeat' (first | exact Cover.nil | exact Take.here | apply Cover.cons | apply Take.there)
  case hc15 => intro ρ' hρ hR; exact lof_ok _ _
  rintro _ _ ⟨rfl, rfl⟩
  refine ⟨.none (by kernel_rfl), ?_⟩
  refine m_call (Hin := []) (Hr := ?hr16) (R := ?rr16) rfl (wantedY rfl rfl) rfl rfl rfl ?hin16 ?hc16 ?hk16
  case hin16 => repeat' (first | exact Cover.nil | exact Take.here | apply Cover.cons | apply Take.there)
  case hc16 => intro ρ' hρ hR; exact lof_ok _ _
  rintro _ _ ⟨rfl, rfl⟩
  refine ⟨.none (by kernel_rfl), ?_⟩
  refine m_call (Hin := []) (Hr := ?hr17) (R := ?rr17) rfl (wantedY rfl rfl) rfl rfl rfl ?hin17 ?hc17 ?hk17
  case hin17 => repeat' (first | exact Cover.nil | exact Take.here | apply Cover.cons | apply Take.there)
  case hc17 => intro ρ' hρ hR; exact widen_ok _ _ _ _
  rintro _ _ ⟨u1, u2, rfl, hu4, rfl⟩
  refine ⟨.none (by kernel_rfl), ?_⟩
  obtain ⟨rfl, rfl⟩ : 0 = u1 ∧ 8 = u2 := by
    have e : widenS (0, 3) (0, 5) = (0, 8) := by decide
    rw [e] at hu4; injection hu4 with q3 q4; exact ⟨q3, q4⟩
  refine m_call (Hin := []) (Hr := ?hr18) (R := ?rr18) rfl (wantedY rfl rfl) rfl rfl rfl ?hin18 ?hc18 ?hk18
  case hin18 => repeat' (first | exact Cover.nil | exact Take.here | apply Cover.cons | apply Take.there)
  case hc18 => intro ρ' hρ hR; exact lof_ok _ _
  rintro _ _ ⟨rfl, rfl⟩
  refine ⟨.none (by kernel_rfl), ?_⟩
  refine m_yes0 rfl rfl rfl (fun _ _ => p_eqagg (eqSpanT 9998 _ _) (by kernel_rfl) rfl rfl) rfl ?_
  first | refine m_float0 rfl (fun _ _ => p_pickt rfl rfl) rfl ?_ | refine m_float0 rfl (fun _ _ => p_pickf rfl rfl) rfl ?_
  refine m_float0 rfl (fun _ _ => p_move rfl) rfl ?_
  refine m_call (Hin := []) (Hr := ?hr19) (R := ?rr19) rfl (wantedY rfl rfl) rfl rfl rfl ?hin19 ?hc19 ?hk19
  case hin19 => repeat' (first | exact Cover.nil | exact Take.here | apply Cover.cons | apply Take.there)
  case hc19 => intro ρ' hρ hR; exact of_ok _ _
  rintro _ _ ⟨u1, u2, rfl, hu5, rfl⟩
  refine ⟨.none (by kernel_rfl), ?_⟩
  obtain ⟨rfl, rfl⟩ : 1 = u1 ∧ 0 = u2 := by
    have e : ofS 2 1 = (1, 0) := by decide
    rw [e] at hu5; injection hu5 with q3 q4; exact ⟨q3, q4⟩
  refine m_call (Hin := []) (Hr := ?hr20) (R := ?rr20) rfl (wantedY rfl rfl) rfl rfl rfl ?hin20 ?hc20 ?hk20
  case hin20 => repeat' (first | exact Cover.nil | exact Take.here | apply Cover.cons | apply Take.there)
  case hc20 => intro ρ' hρ hR; exact lof_ok _ _
  rintro _ _ ⟨rfl, rfl⟩
  refine ⟨.none (by kernel_rfl), ?_⟩
  refine m_yes0 rfl rfl rfl (fun _ _ => p_eqagg (eqSpanT 9998 _ _) (by kernel_rfl) rfl rfl) rfl ?_
  first | refine m_float0 rfl (fun _ _ => p_pickt rfl rfl) rfl ?_ | refine m_float0 rfl (fun _ _ => p_pickf rfl rfl) rfl ?_
  refine m_float0 rfl (fun _ _ => p_move rfl) rfl ?_
  refine m_call (Hin := []) (Hr := ?hr21) (R := ?rr21) rfl (wantedY rfl rfl) rfl rfl rfl ?hin21 ?hc21 ?hk21
  case hin21 => repeat' (first | exact Cover.nil | exact Take.here | apply Cover.cons | apply Take.there)
  case hc21 => intro ρ' hρ hR; exact lof_ok _ _
  rintro _ _ ⟨rfl, rfl⟩
  refine ⟨.none (by kernel_rfl), ?_⟩
  refine m_call (Hin := []) (Hr := ?hr22) (R := ?rr22) rfl (wantedY rfl rfl) rfl rfl rfl ?hin22 ?hc22 ?hk22
  case hin22 => repeat' (first | exact Cover.nil | exact Take.here | apply Cover.cons | apply Take.there)
  case hc22 => intro ρ' hρ hR; exact lof_ok _ _
  rintro _ _ ⟨rfl, rfl⟩
  refine ⟨.none (by kernel_rfl), ?_⟩
  refine m_call (Hin := []) (Hr := ?hr23) (R := ?rr23) rfl (wantedY rfl rfl) rfl rfl rfl ?hin23 ?hc23 ?hk23
  case hin23 => repeat' (first | exact Cover.nil | exact Take.here | apply Cover.cons | apply Take.there)
  case hc23 => intro ρ' hρ hR; exact join_ok _ _ _ _
  rintro _ _ ⟨u1, u2, rfl, hu6, rfl⟩
  refine ⟨.none (by kernel_rfl), ?_⟩
  obtain ⟨rfl, rfl⟩ : 0 = u1 ∧ 6 = u2 := by
    have e : joinS (0, 1) (5, 6) = (0, 6) := by decide
    rw [e] at hu6; injection hu6 with q3 q4; exact ⟨q3, q4⟩
  refine m_call (Hin := []) (Hr := ?hr24) (R := ?rr24) rfl (wantedY rfl rfl) rfl rfl rfl ?hin24 ?hc24 ?hk24
  case hin24 => repeat' (first | exact Cover.nil | exact Take.here | apply Cover.cons | apply Take.there)
  case hc24 => intro ρ' hρ hR; exact lof_ok _ _
  rintro _ _ ⟨rfl, rfl⟩
  refine ⟨.none (by kernel_rfl), ?_⟩
  refine m_yes0 rfl rfl rfl (fun _ _ => p_eqagg (eqSpanT 9998 _ _) (by kernel_rfl) rfl rfl) rfl ?_
  first | refine m_float0 rfl (fun _ _ => p_pickt rfl rfl) rfl ?_ | refine m_float0 rfl (fun _ _ => p_pickf rfl rfl) rfl ?_
  refine m_float0 rfl (fun _ _ => p_move rfl) rfl ?_
  refine m_call (Hin := []) (Hr := ?hr25) (R := ?rr25) rfl (wantedY rfl rfl) rfl rfl rfl ?hin25 ?hc25 ?hk25
  case hin25 => repeat' (first | exact Cover.nil | exact Take.here | apply Cover.cons | apply Take.there)
  case hc25 => intro ρ' hρ hR; exact full1_ok
  rintro _ _ ⟨rfl, rfl⟩
  refine ⟨.none (by kernel_rfl), ?_⟩
  refine m_call (Hin := []) (Hr := ?hr26) (R := ?rr26) rfl (wantedY rfl rfl) rfl rfl rfl ?hin26 ?hc26 ?hk26
  case hin26 => repeat' (first | exact Cover.nil | exact Take.here | apply Cover.cons | apply Take.there)
  case hc26 => intro ρ' hρ hR; exact lof_ok _ _
  rintro _ _ ⟨rfl, rfl⟩
  refine ⟨.none (by kernel_rfl), ?_⟩
  refine m_yes0 rfl rfl rfl (fun _ _ => p_eqagg (eqSpanT 9998 _ _) (by kernel_rfl) rfl rfl) rfl ?_
  first | refine m_float0 rfl (fun _ _ => p_pickt rfl rfl) rfl ?_ | refine m_float0 rfl (fun _ _ => p_pickf rfl rfl) rfl ?_
  refine m_float0 rfl (fun _ _ => p_assign rfl) rfl ?_
  refine m_nil ?_
  refine g_qt ?_
  refine g_ret ?_
  exact g_post (Ho := []) (rs := [.tmp 0]) rfl (.tmp rfl .nil) ⟨rfl, rfl⟩ .nil
end Go.Proofs.Ytlcipnligbjclab
