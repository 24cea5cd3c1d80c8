/- Chapter 35: the law of a nil graph. Conditions: none. -/
import Derived.Test.YtmdmffpfnijahaaB8
namespace Go.Proofs.Ytmdmffpfnijahaa
set_option linter.unusedVariables false
set_option linter.unusedSimpArgs false
set_option linter.unusedSectionVars false
open Go Go.Z Go.Z.Aig

theorem n_ask {ρ : Nat → Obj → Prop} (a : Option Addr) (n c : Nat) : Con Try.prog ρ 28 #[.pointer none, .slice a n c] [] (fun v H => v = .int .i64 1 ∧ H = []) := by
  refine con_intro Try.func28 Try.call28 rfl Try.ntmps28 rfl (L := [(0, _), (1, _)]) rfl fun w hh => ?_
  refine g_seq ?_
  refine g_region ?_
  refine g_eff (e_box rfl (by rfl)) rfl (fun _ _ => ?_)
  rintro ⟨b2, rfl, rfl⟩
  refine g_pure (p_assign rfl) rfl ?_
  refine g_nil ?_
  refine g_qt ?_
  refine g_seq ?_
  refine g_seq ?_
  refine g_region ?_
  refine g_pure (p_load (by rfl) rfl (by first | (apply Has.own; (repeat' (first | exact Take.here | apply Take.there)); done) | exact Has.ro (by assumption)) (by first | rfl | assumption)) rfl ?_
  refine g_pure (p_eqnil (by rfl) rfl rfl) rfl ?_
  refine g_nil ?_
  refine g_qt ?_
  refine g_ift rfl ?_
  refine g_seq ?_
  refine g_region ?_
  refine g_pure (p_assign rfl) rfl ?_
  refine g_nil ?_
  refine g_qt ?_
  refine g_ret ?_
  refine g_qt_ret ?_
  exact g_post (rs := [.tmp 4]) rfl (.tmp rfl .nil) ⟨rfl, rfl⟩ .nil
theorem n_in {ρ : Nat → Obj → Prop} : Con Try.prog ρ 22 #[.pointer none] [] (fun v H => v = .tuple #[.int .i64 0, .int .i64 1] ∧ H = []) := by
  refine con_intro Try.func22 Try.call22 rfl Try.ntmps22 rfl (L := [(0, _)]) rfl fun w hh => ?_
  refine g_seq ?_
  refine g_region ?_
  refine g_pure (p_assign rfl) rfl ?_
  refine g_pure (p_assign rfl) rfl ?_
  refine g_nil ?_
  refine g_qt ?_
  refine g_seq ?_
  refine g_seq ?_
  refine g_region ?_
  refine g_pure (p_move rfl) rfl ?_
  refine g_pure (p_eqnil (by rfl) rfl rfl) rfl ?_
  refine g_nil ?_
  refine g_qt ?_
  refine g_ift rfl ?_
  refine g_seq ?_
  refine g_region ?_
  refine g_pure (p_assign rfl) rfl ?_
  refine g_pure (p_assign rfl) rfl ?_
  refine g_nil ?_
  refine g_qt ?_
  refine g_ret ?_
  refine g_qt_ret ?_
  exact g_post (rs := [.tmp 2, .tmp 3]) rfl (.tmp rfl (.tmp rfl .nil)) ⟨rfl, rfl⟩ .nil
theorem n_and {ρ : Nat → Obj → Prop} (a b : Int) : Con Try.prog ρ 15 #[.pointer none, .int .i64 a, .int .i64 b] [] (fun v H => v = .tuple #[.int .i64 0, .int .i64 1] ∧ H = []) := by
  refine con_intro Try.func15 Try.call15 rfl Try.ntmps15 rfl (L := [(0, _), (1, _), (2, _)]) rfl fun w hh => ?_
  refine g_seq ?_
  refine g_region ?_
  refine g_pure (p_assign rfl) rfl ?_
  refine g_pure (p_assign rfl) rfl ?_
  refine g_nil ?_
  refine g_qt ?_
  refine g_seq ?_
  refine g_seq ?_
  refine g_region ?_
  refine g_pure (p_move rfl) rfl ?_
  refine g_pure (p_move rfl) rfl ?_
  refine g_pure (p_move rfl) rfl ?_
  refine g_eff (e_bs (xs := [.tmp 10, .tmp 11]) rfl rfl rfl (by rfl) (by rfl) rfl (by rfl)) rfl (fun _ _ => ?_)
  rintro ⟨b12, rfl, rfl⟩
  refine g_call (Hin := []) (Hr := ?hr1) (R := ?rr1) rfl rfl rfl ?hin1 ?hc1 ?hk1
  case hin1 => repeat' (first | exact Cover.nil | exact Take.here | apply Cover.cons | apply Take.there)
  case hc1 => intro ρ' hρ hR; exact n_ask _ _ _
  rintro _ _ ⟨rfl, rfl⟩
  refine g_pure (p_assign rfl) rfl ?_
  refine g_nil ?_
  refine g_qt ?_
  refine g_seq ?_
  refine g_region ?_
  refine g_pure (p_move rfl) rfl ?_
  refine g_pure (p_neq rfl rfl) rfl ?_
  refine g_nil ?_
  refine g_qt ?_
  refine g_ift rfl ?_
  refine g_seq ?_
  refine g_region ?_
  refine g_pure (p_move rfl) rfl ?_
  refine g_pure (p_assign rfl) rfl ?_
  refine g_pure (p_assign rfl) rfl ?_
  refine g_nil ?_
  refine g_qt ?_
  refine g_ret ?_
  refine g_qt_ret ?_
  exact g_post (rs := [.tmp 6, .tmp 7]) rfl (.tmp rfl (.tmp rfl .nil)) ⟨rfl, rfl⟩ .nil
theorem n_or {ρ : Nat → Obj → Prop} (a b : Int) : Con Try.prog ρ 16 #[.pointer none, .int .i64 a, .int .i64 b] [] (fun v H => v = .tuple #[.int .i64 0, .int .i64 1] ∧ H = []) := by
  refine con_intro Try.func16 Try.call16 rfl Try.ntmps16 rfl (L := [(0, _), (1, _), (2, _)]) rfl fun w hh => ?_
  refine g_seq ?_
  refine g_region ?_
  refine g_pure (p_assign rfl) rfl ?_
  refine g_pure (p_assign rfl) rfl ?_
  refine g_nil ?_
  refine g_qt ?_
  refine g_seq ?_
  refine g_seq ?_
  refine g_region ?_
  refine g_pure (p_move rfl) rfl ?_
  refine g_pure (p_move rfl) rfl ?_
  refine g_pure (p_move rfl) rfl ?_
  refine g_eff (e_bs (xs := [.tmp 12, .tmp 13]) rfl rfl rfl (by rfl) (by rfl) rfl (by rfl)) rfl (fun _ _ => ?_)
  rintro ⟨b14, rfl, rfl⟩
  refine g_call (Hin := []) (Hr := ?hr2) (R := ?rr2) rfl rfl rfl ?hin2 ?hc2 ?hk2
  case hin2 => repeat' (first | exact Cover.nil | exact Take.here | apply Cover.cons | apply Take.there)
  case hc2 => intro ρ' hρ hR; exact n_ask _ _ _
  rintro _ _ ⟨rfl, rfl⟩
  refine g_pure (p_assign rfl) rfl ?_
  refine g_nil ?_
  refine g_qt ?_
  refine g_seq ?_
  refine g_region ?_
  refine g_pure (p_move rfl) rfl ?_
  refine g_pure (p_neq rfl rfl) rfl ?_
  refine g_nil ?_
  refine g_qt ?_
  refine g_ift rfl ?_
  refine g_seq ?_
  refine g_region ?_
  refine g_pure (p_move rfl) rfl ?_
  refine g_pure (p_assign rfl) rfl ?_
  refine g_pure (p_assign rfl) rfl ?_
  refine g_nil ?_
  refine g_qt ?_
  refine g_ret ?_
  refine g_qt_ret ?_
  exact g_post (rs := [.tmp 6, .tmp 7]) rfl (.tmp rfl (.tmp rfl .nil)) ⟨rfl, rfl⟩ .nil
theorem n_xor {ρ : Nat → Obj → Prop} (a b : Int) : Con Try.prog ρ 17 #[.pointer none, .int .i64 a, .int .i64 b] [] (fun v H => v = .tuple #[.int .i64 0, .int .i64 1] ∧ H = []) := by
  refine con_intro Try.func17 Try.call17 rfl Try.ntmps17 rfl (L := [(0, _), (1, _), (2, _)]) rfl fun w hh => ?_
  refine g_seq ?_
  refine g_region ?_
  refine g_pure (p_assign rfl) rfl ?_
  refine g_pure (p_assign rfl) rfl ?_
  refine g_nil ?_
  refine g_qt ?_
  refine g_seq ?_
  refine g_seq ?_
  refine g_region ?_
  refine g_pure (p_move rfl) rfl ?_
  refine g_pure (p_move rfl) rfl ?_
  refine g_pure (p_move rfl) rfl ?_
  refine g_eff (e_bs (xs := [.tmp 10, .tmp 11]) rfl rfl rfl (by rfl) (by rfl) rfl (by rfl)) rfl (fun _ _ => ?_)
  rintro ⟨b12, rfl, rfl⟩
  refine g_call (Hin := []) (Hr := ?hr3) (R := ?rr3) rfl rfl rfl ?hin3 ?hc3 ?hk3
  case hin3 => repeat' (first | exact Cover.nil | exact Take.here | apply Cover.cons | apply Take.there)
  case hc3 => intro ρ' hρ hR; exact n_ask _ _ _
  rintro _ _ ⟨rfl, rfl⟩
  refine g_pure (p_assign rfl) rfl ?_
  refine g_nil ?_
  refine g_qt ?_
  refine g_seq ?_
  refine g_region ?_
  refine g_pure (p_move rfl) rfl ?_
  refine g_pure (p_neq rfl rfl) rfl ?_
  refine g_nil ?_
  refine g_qt ?_
  refine g_ift rfl ?_
  refine g_seq ?_
  refine g_region ?_
  refine g_pure (p_move rfl) rfl ?_
  refine g_pure (p_assign rfl) rfl ?_
  refine g_pure (p_assign rfl) rfl ?_
  refine g_nil ?_
  refine g_qt ?_
  refine g_ret ?_
  refine g_qt_ret ?_
  exact g_post (rs := [.tmp 6, .tmp 7]) rfl (.tmp rfl (.tmp rfl .nil)) ⟨rfl, rfl⟩ .nil
theorem n_mux {ρ : Nat → Obj → Prop} (c a b : Int) : Con Try.prog ρ 18 #[.pointer none, .int .i64 c, .int .i64 a, .int .i64 b] [] (fun v H => v = .tuple #[.int .i64 0, .int .i64 1] ∧ H = []) := by
  refine con_intro Try.func18 Try.call18 rfl Try.ntmps18 rfl (L := [(0, _), (1, _), (2, _), (3, _)]) rfl fun w hh => ?_
  refine g_seq ?_
  refine g_region ?_
  refine g_pure (p_assign rfl) rfl ?_
  refine g_pure (p_assign rfl) rfl ?_
  refine g_nil ?_
  refine g_qt ?_
  refine g_seq ?_
  refine g_seq ?_
  refine g_region ?_
  refine g_pure (p_move rfl) rfl ?_
  refine g_pure (p_move rfl) rfl ?_
  refine g_pure (p_move rfl) rfl ?_
  refine g_pure (p_move rfl) rfl ?_
  refine g_eff (e_bs (xs := [.tmp 12, .tmp 13, .tmp 14]) rfl rfl rfl (by rfl) (by rfl) rfl (by rfl)) rfl (fun _ _ => ?_)
  rintro ⟨b15, rfl, rfl⟩
  refine g_call (Hin := []) (Hr := ?hr4) (R := ?rr4) rfl rfl rfl ?hin4 ?hc4 ?hk4
  case hin4 => repeat' (first | exact Cover.nil | exact Take.here | apply Cover.cons | apply Take.there)
  case hc4 => intro ρ' hρ hR; exact n_ask _ _ _
  rintro _ _ ⟨rfl, rfl⟩
  refine g_pure (p_assign rfl) rfl ?_
  refine g_nil ?_
  refine g_qt ?_
  refine g_seq ?_
  refine g_region ?_
  refine g_pure (p_move rfl) rfl ?_
  refine g_pure (p_neq rfl rfl) rfl ?_
  refine g_nil ?_
  refine g_qt ?_
  refine g_ift rfl ?_
  refine g_seq ?_
  refine g_region ?_
  refine g_pure (p_move rfl) rfl ?_
  refine g_pure (p_assign rfl) rfl ?_
  refine g_pure (p_assign rfl) rfl ?_
  refine g_nil ?_
  refine g_qt ?_
  refine g_ret ?_
  refine g_qt_ret ?_
  exact g_post (rs := [.tmp 8, .tmp 9]) rfl (.tmp rfl (.tmp rfl .nil)) ⟨rfl, rfl⟩ .nil
theorem n_eval {ρ : Nat → Obj → Prop} (x y : Value) : Con Try.prog ρ 12 #[.pointer none, x, y] [] (fun v H => v = .tuple #[.slice none 0 0, .int .i64 1] ∧ H = []) := by
  refine con_intro Try.func12 Try.call12 rfl Try.ntmps12 rfl (L := [(0, _), (1, _), (2, _)]) rfl fun w hh => ?_
  refine g_seq ?_
  refine g_region ?_
  refine g_pure (p_assign rfl) rfl ?_
  refine g_pure (p_assign rfl) rfl ?_
  refine g_nil ?_
  refine g_qt ?_
  refine g_seq ?_
  refine g_seq ?_
  refine g_region ?_
  refine g_pure (p_move rfl) rfl ?_
  refine g_pure (p_eqnil (by rfl) rfl rfl) rfl ?_
  refine g_nil ?_
  refine g_qt ?_
  refine g_ift rfl ?_
  refine g_seq ?_
  refine g_region ?_
  refine g_pure (p_assign rfl) rfl ?_
  refine g_pure (p_assign rfl) rfl ?_
  refine g_nil ?_
  refine g_qt ?_
  refine g_ret ?_
  refine g_qt_ret ?_
  exact g_post (rs := [.tmp 6, .tmp 7]) rfl (.tmp rfl (.tmp rfl .nil)) ⟨rfl, rfl⟩ .nil
theorem n_gate {ρ : Nat → Obj → Prop} (a : Int) : Con Try.prog ρ 21 #[.pointer none, .int .i64 a] [] (fun v H => v = .tuple #[.int .i64 0, .int .i64 0, .bool false] ∧ H = []) := by
  refine con_intro Try.func21 Try.call21 rfl Try.ntmps21 rfl (L := [(0, _), (1, _)]) rfl fun w hh => ?_
  refine g_seq ?_
  refine g_region ?_
  refine g_pure (p_assign rfl) rfl ?_
  refine g_pure (p_assign rfl) rfl ?_
  refine g_pure (p_assign rfl) rfl ?_
  refine g_nil ?_
  refine g_qt ?_
  refine g_seq ?_
  refine g_seq ?_
  refine g_region ?_
  refine g_pure (p_move rfl) rfl ?_
  refine g_pure (p_eqnil (by rfl) rfl rfl) rfl ?_
  refine g_pure (p_move rfl) rfl ?_
  refine g_no rfl rfl rfl rfl ?_
  refine g_no rfl rfl rfl rfl ?_
  first | refine g_pure (p_pickt rfl rfl) rfl ?_ | refine g_pure (p_pickf rfl rfl) rfl ?_
  refine g_pure (p_move rfl) rfl ?_
  refine g_no rfl rfl rfl rfl ?_
  refine g_no rfl rfl rfl rfl ?_
  refine g_no rfl rfl rfl rfl ?_
  refine g_no rfl rfl rfl rfl ?_
  refine g_no rfl rfl rfl rfl ?_
  refine g_no rfl rfl rfl rfl ?_
  refine g_no rfl rfl rfl rfl ?_
  first | refine g_pure (p_pickt rfl rfl) rfl ?_ | refine g_pure (p_pickf rfl rfl) rfl ?_
  refine g_pure (p_move rfl) rfl ?_
  refine g_no rfl rfl rfl rfl ?_
  refine g_no rfl rfl rfl rfl ?_
  refine g_no rfl rfl rfl rfl ?_
  refine g_no rfl rfl rfl rfl ?_
  refine g_no rfl rfl rfl rfl ?_
  refine g_no rfl rfl rfl rfl ?_
  refine g_no rfl rfl rfl rfl ?_
  refine g_no rfl rfl rfl rfl ?_
  refine g_no rfl rfl rfl rfl ?_
  first | refine g_pure (p_pickt rfl rfl) rfl ?_ | refine g_pure (p_pickf rfl rfl) rfl ?_
  refine g_nil ?_
  refine g_qt ?_
  refine g_ift rfl ?_
  refine g_seq ?_
  refine g_region ?_
  refine g_pure (p_assign rfl) rfl ?_
  refine g_pure (p_assign rfl) rfl ?_
  refine g_pure (p_assign rfl) rfl ?_
  refine g_nil ?_
  refine g_qt ?_
  refine g_ret ?_
  refine g_qt_ret ?_
  exact g_post (rs := [.tmp 4, .tmp 5, .tmp 6]) rfl (.tmp rfl (.tmp rfl (.tmp rfl .nil))) ⟨rfl, rfl⟩ .nil
theorem n_len {ρ : Nat → Obj → Prop} : Con Try.prog ρ 20 #[.pointer none] [] (fun v H => v = .int .i64 0 ∧ H = []) := by
  refine con_intro Try.func20 Try.call20 rfl Try.ntmps20 rfl (L := [(0, _)]) rfl fun w hh => ?_
  refine g_seq ?_
  refine g_region ?_
  refine g_pure (p_assign rfl) rfl ?_
  refine g_nil ?_
  refine g_qt ?_
  refine g_seq ?_
  refine g_seq ?_
  refine g_region ?_
  refine g_pure (p_move rfl) rfl ?_
  refine g_pure (p_eqnil (by rfl) rfl rfl) rfl ?_
  refine g_nil ?_
  refine g_qt ?_
  refine g_ift rfl ?_
  refine g_seq ?_
  refine g_region ?_
  refine g_pure (p_assign rfl) rfl ?_
  refine g_nil ?_
  refine g_qt ?_
  refine g_ret ?_
  refine g_qt_ret ?_
  exact g_post (rs := [.tmp 2]) rfl (.tmp rfl .nil) ⟨rfl, rfl⟩ .nil
theorem n_inputs {ρ : Nat → Obj → Prop} : Con Try.prog ρ 23 #[.pointer none] [] (fun v H => v = .slice none 0 0 ∧ H = []) := by
  refine con_intro Try.func23 Try.call23 rfl Try.ntmps23 rfl (L := [(0, _)]) rfl fun w hh => ?_
  refine g_seq ?_
  refine g_region ?_
  refine g_pure (p_assign rfl) rfl ?_
  refine g_nil ?_
  refine g_qt ?_
  refine g_seq ?_
  refine g_seq ?_
  refine g_region ?_
  refine g_pure (p_move rfl) rfl ?_
  refine g_pure (p_eqnil (by rfl) rfl rfl) rfl ?_
  refine g_nil ?_
  refine g_qt ?_
  refine g_ift rfl ?_
  refine g_seq ?_
  refine g_region ?_
  refine g_pure (p_assign rfl) rfl ?_
  refine g_nil ?_
  refine g_qt ?_
  refine g_ret ?_
  refine g_qt_ret ?_
  exact g_post (rs := [.tmp 2]) rfl (.tmp rfl .nil) ⟨rfl, rfl⟩ .nil

theorem nil_ok {ρ : Nat → Obj → Prop} (a b : Int) : Con Try.prog ρ 8 #[.int .i64 a, .int .i64 b] [] (fun v _ => v = .bool true) := by
  refine con_intro Try.func8 Try.call8 rfl Try.ntmps8 rfl (L := [(0, _), (1, _)]) rfl fun w hh => ?_
  refine g_seq ?_
  refine g_region ?_
  refine g_pure (p_assign rfl) rfl ?_
  refine g_nil ?_
  refine g_qt ?_
  refine g_seq ?_
  refine g_region ?_
  refine g_pure (p_assign rfl) rfl ?_
  refine g_nil ?_
  refine g_qt ?_
  refine g_seq ?_
  refine g_region ?_
  refine g_pure (p_move rfl) rfl ?_
  refine g_call (Hin := []) (Hr := ?hr5) (R := ?rr5) rfl rfl rfl ?hin5 ?hc5 ?hk5
  case hin5 => repeat' (first | exact Cover.nil | exact Take.here | apply Cover.cons | apply Take.there)
  case hc5 => intro ρ' hρ hR; exact n_in
  rintro _ _ ⟨rfl, rfl⟩
  refine g_pure (p_move rfl) rfl ?_
  refine g_pure (p_extract rfl rfl) rfl ?_
  refine g_pure (p_extract rfl rfl) rfl ?_
  refine g_pure (p_assign rfl) rfl ?_
  refine g_pure (p_assign rfl) rfl ?_
  refine g_nil ?_
  refine g_qt ?_
  refine g_seq ?_
  refine g_region ?_
  refine g_pure (p_move rfl) rfl ?_
  refine g_pure (p_move rfl) rfl ?_
  refine g_pure (p_move rfl) rfl ?_
  refine g_call (Hin := []) (Hr := ?hr6) (R := ?rr6) rfl rfl rfl ?hin6 ?hc6 ?hk6
  case hin6 => repeat' (first | exact Cover.nil | exact Take.here | apply Cover.cons | apply Take.there)
  case hc6 => intro ρ' hρ hR; exact n_and a b
  rintro _ _ ⟨rfl, rfl⟩
  refine g_pure (p_move rfl) rfl ?_
  refine g_pure (p_extract rfl rfl) rfl ?_
  refine g_pure (p_extract rfl rfl) rfl ?_
  refine g_pure (p_assign rfl) rfl ?_
  refine g_pure (p_assign rfl) rfl ?_
  refine g_nil ?_
  refine g_qt ?_
  refine g_seq ?_
  refine g_region ?_
  refine g_pure (p_move rfl) rfl ?_
  refine g_pure (p_move rfl) rfl ?_
  refine g_pure (p_move rfl) rfl ?_
  refine g_call (Hin := []) (Hr := ?hr7) (R := ?rr7) rfl rfl rfl ?hin7 ?hc7 ?hk7
  case hin7 => repeat' (first | exact Cover.nil | exact Take.here | apply Cover.cons | apply Take.there)
  case hc7 => intro ρ' hρ hR; exact n_or a b
  rintro _ _ ⟨rfl, rfl⟩
  refine g_pure (p_move rfl) rfl ?_
  refine g_pure (p_extract rfl rfl) rfl ?_
  refine g_pure (p_extract rfl rfl) rfl ?_
  refine g_pure (p_assign rfl) rfl ?_
  refine g_pure (p_assign rfl) rfl ?_
  refine g_nil ?_
  refine g_qt ?_
  refine g_seq ?_
  refine g_region ?_
  refine g_pure (p_move rfl) rfl ?_
  refine g_pure (p_move rfl) rfl ?_
  refine g_pure (p_move rfl) rfl ?_
  refine g_call (Hin := []) (Hr := ?hr8) (R := ?rr8) rfl rfl rfl ?hin8 ?hc8 ?hk8
  case hin8 => repeat' (first | exact Cover.nil | exact Take.here | apply Cover.cons | apply Take.there)
  case hc8 => intro ρ' hρ hR; exact n_xor a b
  rintro _ _ ⟨rfl, rfl⟩
  refine g_pure (p_move rfl) rfl ?_
  refine g_pure (p_extract rfl rfl) rfl ?_
  refine g_pure (p_extract rfl rfl) rfl ?_
  refine g_pure (p_assign rfl) rfl ?_
  refine g_pure (p_assign rfl) rfl ?_
  refine g_nil ?_
  refine g_qt ?_
  refine g_seq ?_
  refine g_region ?_
  refine g_pure (p_move rfl) rfl ?_
  refine g_pure (p_move rfl) rfl ?_
  refine g_pure (p_move rfl) rfl ?_
  refine g_call (Hin := []) (Hr := ?hr9) (R := ?rr9) rfl rfl rfl ?hin9 ?hc9 ?hk9
  case hin9 => repeat' (first | exact Cover.nil | exact Take.here | apply Cover.cons | apply Take.there)
  case hc9 => intro ρ' hρ hR; exact n_mux 1 a b
  rintro _ _ ⟨rfl, rfl⟩
  refine g_pure (p_move rfl) rfl ?_
  refine g_pure (p_extract rfl rfl) rfl ?_
  refine g_pure (p_extract rfl rfl) rfl ?_
  refine g_pure (p_assign rfl) rfl ?_
  refine g_pure (p_assign rfl) rfl ?_
  refine g_nil ?_
  refine g_qt ?_
  refine g_seq ?_
  refine g_region ?_
  refine g_pure (p_move rfl) rfl ?_
  refine g_eff (e_bs (xs := [.const (.int .i64 1)]) rfl rfl rfl (by rfl) (by rfl) rfl (by rfl)) rfl (fun _ _ => ?_)
  rintro ⟨b56, rfl, rfl⟩
  refine g_call (Hin := []) (Hr := ?hr10) (R := ?rr10) rfl rfl rfl ?hin10 ?hc10 ?hk10
  case hin10 => repeat' (first | exact Cover.nil | exact Take.here | apply Cover.cons | apply Take.there)
  case hc10 => intro ρ' hρ hR; exact n_eval _ _
  rintro _ _ ⟨rfl, rfl⟩
  refine g_pure (p_move rfl) rfl ?_
  refine g_pure (p_extract rfl rfl) rfl ?_
  refine g_pure (p_extract rfl rfl) rfl ?_
  refine g_pure (p_assign rfl) rfl ?_
  refine g_pure (p_assign rfl) rfl ?_
  refine g_nil ?_
  refine g_qt ?_
  refine g_seq ?_
  refine g_region ?_
  refine g_pure (p_move rfl) rfl ?_
  refine g_pure (p_move rfl) rfl ?_
  refine g_call (Hin := []) (Hr := ?hr11) (R := ?rr11) rfl rfl rfl ?hin11 ?hc11 ?hk11
  case hin11 => repeat' (first | exact Cover.nil | exact Take.here | apply Cover.cons | apply Take.there)
  case hc11 => intro ρ' hρ hR; exact n_gate a
  rintro _ _ ⟨rfl, rfl⟩
  refine g_pure (p_move rfl) rfl ?_
  refine g_pure (p_extract rfl rfl) rfl ?_
  refine g_pure (p_extract rfl rfl) rfl ?_
  refine g_pure (p_extract rfl rfl) rfl ?_
  refine g_pure (p_assign rfl) rfl ?_
  refine g_pure (p_assign rfl) rfl ?_
  refine g_pure (p_assign rfl) rfl ?_
  refine g_nil ?_
  refine g_qt ?_
  refine g_seq ?_
  refine g_region ?_
  refine g_pure (p_move rfl) rfl ?_
  refine g_pure (p_eql rfl rfl) rfl ?_
  refine g_pure (p_move rfl) rfl ?_
  refine g_yes rfl rfl ?_
  refine g_pure (p_move rfl) rfl ?_
  refine g_yes rfl rfl ?_
  refine g_pure (p_eql rfl rfl) rfl ?_
  first | refine g_pure (p_pickt rfl rfl) rfl ?_ | refine g_pure (p_pickf rfl rfl) rfl ?_
  refine g_pure (p_move rfl) rfl ?_
  refine g_yes rfl rfl ?_
  refine g_pure (p_move rfl) rfl ?_
  refine g_yes rfl rfl ?_
  refine g_pure (p_eql rfl rfl) rfl ?_
  first | refine g_pure (p_pickt rfl rfl) rfl ?_ | refine g_pure (p_pickf rfl rfl) rfl ?_
  refine g_pure (p_move rfl) rfl ?_
  refine g_yes rfl rfl ?_
  refine g_pure (p_move rfl) rfl ?_
  refine g_yes rfl rfl ?_
  refine g_pure (p_eql rfl rfl) rfl ?_
  first | refine g_pure (p_pickt rfl rfl) rfl ?_ | refine g_pure (p_pickf rfl rfl) rfl ?_
  refine g_pure (p_move rfl) rfl ?_
  refine g_yes rfl rfl ?_
  refine g_pure (p_move rfl) rfl ?_
  refine g_yes rfl rfl ?_
  refine g_pure (p_eql rfl rfl) rfl ?_
  first | refine g_pure (p_pickt rfl rfl) rfl ?_ | refine g_pure (p_pickf rfl rfl) rfl ?_
  refine g_pure (p_move rfl) rfl ?_
  refine g_yes rfl rfl ?_
  refine g_pure (p_move rfl) rfl ?_
  refine g_yes rfl rfl ?_
  refine g_pure (p_eql rfl rfl) rfl ?_
  first | refine g_pure (p_pickt rfl rfl) rfl ?_ | refine g_pure (p_pickf rfl rfl) rfl ?_
  refine g_pure (p_move rfl) rfl ?_
  refine g_yes rfl rfl ?_
  refine g_pure (p_move rfl) rfl ?_
  refine g_yes rfl rfl ?_
  refine g_pure (p_eql rfl rfl) rfl ?_
  first | refine g_pure (p_pickt rfl rfl) rfl ?_ | refine g_pure (p_pickf rfl rfl) rfl ?_
  refine g_pure (p_move rfl) rfl ?_
  refine g_yes rfl rfl ?_
  refine g_pure (p_move rfl) rfl ?_
  refine g_yes rfl rfl ?_
  refine g_pure (p_eql rfl rfl) rfl ?_
  first | refine g_pure (p_pickt rfl rfl) rfl ?_ | refine g_pure (p_pickf rfl rfl) rfl ?_
  refine g_pure (p_move rfl) rfl ?_
  refine g_yes rfl rfl ?_
  refine g_pure (p_move rfl) rfl ?_
  refine g_yes rfl rfl ?_
  refine g_pure (p_len (by rfl) rfl) rfl ?_
  refine g_yes rfl rfl ?_
  refine g_pure (p_eql rfl rfl) rfl ?_
  first | refine g_pure (p_pickt rfl rfl) rfl ?_ | refine g_pure (p_pickf rfl rfl) rfl ?_
  refine g_pure (p_move rfl) rfl ?_
  refine g_yes rfl rfl ?_
  refine g_pure (p_move rfl) rfl ?_
  refine g_yes rfl rfl ?_
  refine g_pure (p_eql rfl rfl) rfl ?_
  first | refine g_pure (p_pickt rfl rfl) rfl ?_ | refine g_pure (p_pickf rfl rfl) rfl ?_
  refine g_pure (p_move rfl) rfl ?_
  refine g_yes rfl rfl ?_
  refine g_pure (p_move rfl) rfl ?_
  refine g_yes rfl rfl ?_
  refine g_pure (p_eql rfl rfl) rfl ?_
  first | refine g_pure (p_pickt rfl rfl) rfl ?_ | refine g_pure (p_pickf rfl rfl) rfl ?_
  refine g_pure (p_move rfl) rfl ?_
  refine g_yes rfl rfl ?_
  refine g_pure (p_move rfl) rfl ?_
  refine g_yes rfl rfl ?_
  refine g_pure (p_not rfl) rfl ?_
  first | refine g_pure (p_pickt rfl rfl) rfl ?_ | refine g_pure (p_pickf rfl rfl) rfl ?_
  refine g_pure (p_move rfl) rfl ?_
  refine g_yes rfl rfl ?_
  refine g_pure (p_move rfl) rfl ?_
  refine g_yes rfl rfl ?_
  refine g_call (Hin := []) (Hr := ?hr12) (R := ?rr12) rfl rfl rfl ?hin12 ?hc12 ?hk12
  case hin12 => repeat' (first | exact Cover.nil | exact Take.here | apply Cover.cons | apply Take.there)
  case hc12 => intro ρ' hρ hR; exact n_len
  rintro _ _ ⟨rfl, rfl⟩
  refine g_yes rfl rfl ?_
  refine g_pure (p_eql rfl rfl) rfl ?_
  first | refine g_pure (p_pickt rfl rfl) rfl ?_ | refine g_pure (p_pickf rfl rfl) rfl ?_
  refine g_pure (p_move rfl) rfl ?_
  refine g_yes rfl rfl ?_
  refine g_pure (p_move rfl) rfl ?_
  refine g_yes rfl rfl ?_
  refine g_call (Hin := []) (Hr := ?hr13) (R := ?rr13) rfl rfl rfl ?hin13 ?hc13 ?hk13
  case hin13 => repeat' (first | exact Cover.nil | exact Take.here | apply Cover.cons | apply Take.there)
  case hc13 => intro ρ' hρ hR; exact n_inputs
  rintro _ _ ⟨rfl, rfl⟩
  refine g_yes rfl rfl ?_
  refine g_pure (p_len (by rfl) rfl) rfl ?_
  refine g_yes rfl rfl ?_
  refine g_pure (p_eql rfl rfl) rfl ?_
  first | refine g_pure (p_pickt rfl rfl) rfl ?_ | refine g_pure (p_pickf rfl rfl) rfl ?_
  refine g_pure (p_move rfl) rfl ?_
  refine g_yes rfl rfl ?_
  refine g_call (Hin := []) (Hr := ?hr14) (R := ?rr14) rfl rfl rfl ?hin14 ?hc14 ?hk14
  case hin14 => repeat' (first | exact Cover.nil | exact Take.here | apply Cover.cons | apply Take.there)
  case hc14 => intro ρ' hρ hR; exact lives_ok
  rintro _ _ ⟨rfl, rfl⟩
  first | refine g_pure (p_pickt rfl rfl) rfl ?_ | refine g_pure (p_pickf rfl rfl) rfl ?_
  refine g_pure (p_assign rfl) rfl ?_
  refine g_nil ?_
  refine g_qt ?_
  refine g_ret ?_
  exact g_post (rs := [.tmp 4]) rfl (.tmp rfl .nil) rfl .nil
end Go.Proofs.Ytmdmffpfnijahaa
