/- Chapters 1 and 5: words, operators: the walks. Conditions: none. -/
import Derived.Test.YtkebblmmgcgjkaaTy
import Derived.Test.YtkebblmmgcgjkaaC0
namespace Go.Z.Val
set_option maxRecDepth 8000
set_option linter.unusedVariables false
set_option linter.unusedSimpArgs false
set_option linter.unusedSectionVars false
open Go Go.Z
theorem mul_in {x y : Int} (hx : -32768 ≤ x ∧ x ≤ 32767) (hy : -32768 ≤ y ∧ y ≤ 32767) : -1073741824 ≤ x * y ∧ x * y ≤ 1073741824 := by
  have h : (x * y).natAbs ≤ 32768 * 32768 := by rw [Int.natAbs_mul]; exact Nat.mul_le_mul (by omega) (by omega)
  omega
theorem tdiv_in {x y : Int} (hx : -32768 ≤ x ∧ x ≤ 32767) : -32768 ≤ x.tdiv y ∧ x.tdiv y ≤ 32768 := by
  have h : (x.tdiv y).natAbs ≤ x.natAbs := by rw [Int.natAbs_tdiv]; exact Nat.div_le_self _ _
  omega
theorem tmod_in {x y : Int} (hx : -32768 ≤ x ∧ x ≤ 32767) : -32768 ≤ x.tmod y ∧ x.tmod y ≤ 32768 := by
  have h : (x.tmod y).natAbs ≤ x.natAbs := by rw [Int.natAbs_tmod]; exact Nat.mod_le _ _
  omega
end Go.Z.Val
namespace Go.Proofs.Ytkebblmmgcgjkaa
set_option maxRecDepth 8000
set_option linter.unusedVariables false
set_option linter.unusedSimpArgs false
set_option linter.unusedSectionVars false
open Go Go.Z Go.Z.Val
theorem wrap_ok {ρ : Nat → Obj → Prop} (n : Int) : Con Try.prog ρ 130 #[.int .i64 n] [] (fun v H => v = .int .i64 (wr n) ∧ H = []) := by
  have hw := wr_in n
  rw [← wr_eq] at hw
  refine con_intro Try.func130 Try.call130 rfl Try.ntmps130 rfl (L := [(0, _)]) rfl fun w hh => ?_
  refine g_seq ?_
  refine g_region ?_
  refine g_pure (p_assign rfl) rfl ?_
  refine g_nil ?_
  refine g_qt ?_
  refine g_seq ?_
  refine g_region ?_
  refine g_pure (p_move rfl) rfl ?_
  refine g_pure (p_conv (by rfl) rfl) rfl ?_
  first | refine g_pure (p_convi (by rfl) rfl (by omega)) rfl ?_ | refine g_pure (p_conv (by rfl) rfl) rfl ?_
  refine g_pure (p_assign rfl) rfl ?_
  refine g_nil ?_
  refine g_qt ?_
  refine g_ret ?_
  exact g_post (rs := [.tmp 2]) rfl (.tmp rfl .nil) ⟨by rw [← wr_eq]; rfl, rfl⟩ .nil
theorem neg_ok {ρ : Nat → Obj → Prop} (a : Int) : Con Try.prog ρ 107 #[.int .i64 a] [] (fun v H => v = .int .i64 (wr (-(wr a))) ∧ H = []) := by
  have hw := wr_in a
  refine con_intro Try.func107 Try.call107 rfl Try.ntmps107 rfl (L := [(0, _)]) rfl fun w hh => ?_
  refine g_seq ?_
  refine g_region ?_
  refine g_pure (p_assign rfl) rfl ?_
  refine g_nil ?_
  refine g_qt ?_
  refine g_seq ?_
  refine g_region ?_
  refine g_pure (p_move rfl) rfl ?_
  refine g_call (Hin := []) (Hr := ?hr1) (R := ?rr1) rfl rfl rfl ?hin1 ?hc1 ?hk1
  case hin1 => repeat' (first | exact Cover.nil | exact Take.here | apply Cover.cons | apply Take.there)
  case hc1 => intro ρ' hρ hR; exact wrap_ok _
  rintro _ _ ⟨rfl, rfl⟩
  first | refine g_pure (p_negi rfl (by omega)) rfl ?_ | refine g_pure (p_neg rfl) rfl ?_
  refine g_call (Hin := []) (Hr := ?hr2) (R := ?rr2) rfl rfl rfl ?hin2 ?hc2 ?hk2
  case hin2 => repeat' (first | exact Cover.nil | exact Take.here | apply Cover.cons | apply Take.there)
  case hc2 => intro ρ' hρ hR; exact wrap_ok _
  rintro _ _ ⟨rfl, rfl⟩
  refine g_pure (p_assign rfl) rfl ?_
  refine g_nil ?_
  refine g_qt ?_
  refine g_ret ?_
  exact g_post (rs := [.tmp 2]) rfl (.tmp rfl .nil) ⟨rfl, rfl⟩ .nil
theorem wadd_ok {ρ : Nat → Obj → Prop} (a b : Int) : Con Try.prog ρ 108 #[.int .i64 a, .int .i64 b] [] (fun v H => v = .int .i64 (wr (wr a + wr b)) ∧ H = []) := by
  have hw := wr_in a
  have hw2 := wr_in b
  refine con_intro Try.func108 Try.call108 rfl Try.ntmps108 rfl (L := [(0, _), (1, _)]) rfl fun w hh => ?_
  refine g_seq ?_
  refine g_region ?_
  refine g_pure (p_assign rfl) rfl ?_
  refine g_nil ?_
  refine g_qt ?_
  refine g_seq ?_
  refine g_region ?_
  refine g_pure (p_move rfl) rfl ?_
  refine g_call (Hin := []) (Hr := ?hr3) (R := ?rr3) rfl rfl rfl ?hin3 ?hc3 ?hk3
  case hin3 => repeat' (first | exact Cover.nil | exact Take.here | apply Cover.cons | apply Take.there)
  case hc3 => intro ρ' hρ hR; exact wrap_ok _
  rintro _ _ ⟨rfl, rfl⟩
  refine g_pure (p_move rfl) rfl ?_
  refine g_call (Hin := []) (Hr := ?hr4) (R := ?rr4) rfl rfl rfl ?hin4 ?hc4 ?hk4
  case hin4 => repeat' (first | exact Cover.nil | exact Take.here | apply Cover.cons | apply Take.there)
  case hc4 => intro ρ' hρ hR; exact wrap_ok _
  rintro _ _ ⟨rfl, rfl⟩
  first | refine g_pure (p_addi rfl rfl (by omega)) rfl ?_ | refine g_pure (p_add rfl rfl) rfl ?_
  refine g_call (Hin := []) (Hr := ?hr5) (R := ?rr5) rfl rfl rfl ?hin5 ?hc5 ?hk5
  case hin5 => repeat' (first | exact Cover.nil | exact Take.here | apply Cover.cons | apply Take.there)
  case hc5 => intro ρ' hρ hR; exact wrap_ok _
  rintro _ _ ⟨rfl, rfl⟩
  refine g_pure (p_assign rfl) rfl ?_
  refine g_nil ?_
  refine g_qt ?_
  refine g_ret ?_
  exact g_post (rs := [.tmp 4]) rfl (.tmp rfl .nil) ⟨rfl, rfl⟩ .nil
theorem sub_ok {ρ : Nat → Obj → Prop} (a b : Int) : Con Try.prog ρ 109 #[.int .i64 a, .int .i64 b] [] (fun v H => v = .int .i64 (wr (wr a - wr b)) ∧ H = []) := by
  have hw := wr_in a
  have hw2 := wr_in b
  refine con_intro Try.func109 Try.call109 rfl Try.ntmps109 rfl (L := [(0, _), (1, _)]) rfl fun w hh => ?_
  refine g_seq ?_
  refine g_region ?_
  refine g_pure (p_assign rfl) rfl ?_
  refine g_nil ?_
  refine g_qt ?_
  refine g_seq ?_
  refine g_region ?_
  refine g_pure (p_move rfl) rfl ?_
  refine g_call (Hin := []) (Hr := ?hr6) (R := ?rr6) rfl rfl rfl ?hin6 ?hc6 ?hk6
  case hin6 => repeat' (first | exact Cover.nil | exact Take.here | apply Cover.cons | apply Take.there)
  case hc6 => intro ρ' hρ hR; exact wrap_ok _
  rintro _ _ ⟨rfl, rfl⟩
  refine g_pure (p_move rfl) rfl ?_
  refine g_call (Hin := []) (Hr := ?hr7) (R := ?rr7) rfl rfl rfl ?hin7 ?hc7 ?hk7
  case hin7 => repeat' (first | exact Cover.nil | exact Take.here | apply Cover.cons | apply Take.there)
  case hc7 => intro ρ' hρ hR; exact wrap_ok _
  rintro _ _ ⟨rfl, rfl⟩
  first | refine g_pure (p_subi rfl rfl (by omega)) rfl ?_ | refine g_pure (p_sub rfl rfl) rfl ?_
  refine g_call (Hin := []) (Hr := ?hr8) (R := ?rr8) rfl rfl rfl ?hin8 ?hc8 ?hk8
  case hin8 => repeat' (first | exact Cover.nil | exact Take.here | apply Cover.cons | apply Take.there)
  case hc8 => intro ρ' hρ hR; exact wrap_ok _
  rintro _ _ ⟨rfl, rfl⟩
  refine g_pure (p_assign rfl) rfl ?_
  refine g_nil ?_
  refine g_qt ?_
  refine g_ret ?_
  exact g_post (rs := [.tmp 4]) rfl (.tmp rfl .nil) ⟨rfl, rfl⟩ .nil
theorem mul_ok {ρ : Nat → Obj → Prop} (a b : Int) : Con Try.prog ρ 110 #[.int .i64 a, .int .i64 b] [] (fun v H => v = .int .i64 (wr (wr a * wr b)) ∧ H = []) := by
  have hm := mul_in (wr_in a) (wr_in b)
  refine con_intro Try.func110 Try.call110 rfl Try.ntmps110 rfl (L := [(0, _), (1, _)]) rfl fun w hh => ?_
  refine g_seq ?_
  refine g_region ?_
  refine g_pure (p_assign rfl) rfl ?_
  refine g_nil ?_
  refine g_qt ?_
  refine g_seq ?_
  refine g_region ?_
  refine g_pure (p_move rfl) rfl ?_
  refine g_call (Hin := []) (Hr := ?hr9) (R := ?rr9) rfl rfl rfl ?hin9 ?hc9 ?hk9
  case hin9 => repeat' (first | exact Cover.nil | exact Take.here | apply Cover.cons | apply Take.there)
  case hc9 => intro ρ' hρ hR; exact wrap_ok _
  rintro _ _ ⟨rfl, rfl⟩
  refine g_pure (p_move rfl) rfl ?_
  refine g_call (Hin := []) (Hr := ?hr10) (R := ?rr10) rfl rfl rfl ?hin10 ?hc10 ?hk10
  case hin10 => repeat' (first | exact Cover.nil | exact Take.here | apply Cover.cons | apply Take.there)
  case hc10 => intro ρ' hρ hR; exact wrap_ok _
  rintro _ _ ⟨rfl, rfl⟩
  first | refine g_pure (p_muli rfl rfl (by omega)) rfl ?_ | refine g_pure (p_mul rfl rfl) rfl ?_
  refine g_call (Hin := []) (Hr := ?hr11) (R := ?rr11) rfl rfl rfl ?hin11 ?hc11 ?hk11
  case hin11 => repeat' (first | exact Cover.nil | exact Take.here | apply Cover.cons | apply Take.there)
  case hc11 => intro ρ' hρ hR; exact wrap_ok _
  rintro _ _ ⟨rfl, rfl⟩
  refine g_pure (p_assign rfl) rfl ?_
  refine g_nil ?_
  refine g_qt ?_
  refine g_ret ?_
  exact g_post (rs := [.tmp 4]) rfl (.tmp rfl .nil) ⟨rfl, rfl⟩ .nil
theorem div_ok {ρ : Nat → Obj → Prop} (a b : Int) : Con Try.prog ρ 111 #[.int .i64 a, .int .i64 b] [] (fun v H => v = .int .i64 (if wr b = 0 then 0 else wr ((wr a).tdiv (wr b))) ∧ H = []) := by
  have hm := tdiv_in (y := wr b) (wr_in a)
  refine con_intro Try.func111 Try.call111 rfl Try.ntmps111 rfl (L := [(0, _), (1, _)]) rfl fun w hh => ?_
  refine g_seq ?_
  refine g_region ?_
  refine g_pure (p_assign rfl) rfl ?_
  refine g_nil ?_
  refine g_qt ?_
  refine g_seq ?_
  refine g_region ?_
  refine g_pure (p_move rfl) rfl ?_
  refine g_call (Hin := []) (Hr := ?hr12) (R := ?rr12) rfl rfl rfl ?hin12 ?hc12 ?hk12
  case hin12 => repeat' (first | exact Cover.nil | exact Take.here | apply Cover.cons | apply Take.there)
  case hc12 => intro ρ' hρ hR; exact wrap_ok _
  rintro _ _ ⟨rfl, rfl⟩
  refine g_pure (p_move rfl) rfl ?_
  refine g_call (Hin := []) (Hr := ?hr13) (R := ?rr13) rfl rfl rfl ?hin13 ?hc13 ?hk13
  case hin13 => repeat' (first | exact Cover.nil | exact Take.here | apply Cover.cons | apply Take.there)
  case hc13 => intro ρ' hρ hR; exact wrap_ok _
  rintro _ _ ⟨rfl, rfl⟩
  refine g_pure (p_assign rfl) rfl ?_
  refine g_pure (p_assign rfl) rfl ?_
  refine g_nil ?_
  refine g_qt ?_
  refine g_seq ?_
  refine g_seq ?_
  refine g_region ?_
  refine g_pure (p_move rfl) rfl ?_
  refine g_pure (p_eql rfl rfl) rfl ?_
  refine g_nil ?_
  refine g_qt ?_
  refine g_ifdL rfl (fun h1 => ?_) (fun h1 => ?_)
  · refine g_seq ?_
    refine g_region ?_
    refine g_pure (p_assign rfl) rfl ?_
    refine g_nil ?_
    refine g_qt ?_
    refine g_ret ?_
    refine g_qt_ret ?_
    exact g_post (rs := [.tmp 4]) rfl (.tmp rfl .nil) ⟨by first | (rw [if_pos (by assumption)]; rfl) | (rw [if_neg (by assumption)]; show Value.int _ _ = _; rw [i64_in (by omega) (by omega)]), rfl⟩ .nil
  · refine g_skip ?_
    refine g_qt ?_
    refine g_seq ?_
    refine g_region ?_
    refine g_pure (p_move rfl) rfl ?_
    refine g_pure (p_move rfl) rfl ?_
    refine g_pure (p_quo rfl rfl (by assumption)) rfl ?_
    refine g_call (Hin := []) (Hr := ?hr14) (R := ?rr14) rfl rfl rfl ?hin14 ?hc14 ?hk14
    case hin14 => repeat' (first | exact Cover.nil | exact Take.here | apply Cover.cons | apply Take.there)
    case hc14 => intro ρ' hρ hR; exact wrap_ok _
    rintro _ _ ⟨rfl, rfl⟩
    refine g_pure (p_assign rfl) rfl ?_
    refine g_nil ?_
    refine g_qt ?_
    refine g_ret ?_
    exact g_post (rs := [.tmp 4]) rfl (.tmp rfl .nil) ⟨by first | (rw [if_pos (by assumption)]; rfl) | (rw [if_neg (by assumption)]; show Value.int _ _ = _; rw [i64_in (by omega) (by omega)]), rfl⟩ .nil
theorem mod_ok {ρ : Nat → Obj → Prop} (a b : Int) : Con Try.prog ρ 112 #[.int .i64 a, .int .i64 b] [] (fun v H => v = .int .i64 (if wr b = 0 then wr a else (wr a).tmod (wr b)) ∧ H = []) := by
  refine con_intro Try.func112 Try.call112 rfl Try.ntmps112 rfl (L := [(0, _), (1, _)]) rfl fun w hh => ?_
  refine g_seq ?_
  refine g_region ?_
  refine g_pure (p_assign rfl) rfl ?_
  refine g_nil ?_
  refine g_qt ?_
  refine g_seq ?_
  refine g_region ?_
  refine g_pure (p_move rfl) rfl ?_
  refine g_call (Hin := []) (Hr := ?hr15) (R := ?rr15) rfl rfl rfl ?hin15 ?hc15 ?hk15
  case hin15 => repeat' (first | exact Cover.nil | exact Take.here | apply Cover.cons | apply Take.there)
  case hc15 => intro ρ' hρ hR; exact wrap_ok _
  rintro _ _ ⟨rfl, rfl⟩
  refine g_pure (p_move rfl) rfl ?_
  refine g_call (Hin := []) (Hr := ?hr16) (R := ?rr16) rfl rfl rfl ?hin16 ?hc16 ?hk16
  case hin16 => repeat' (first | exact Cover.nil | exact Take.here | apply Cover.cons | apply Take.there)
  case hc16 => intro ρ' hρ hR; exact wrap_ok _
  rintro _ _ ⟨rfl, rfl⟩
  refine g_pure (p_assign rfl) rfl ?_
  refine g_pure (p_assign rfl) rfl ?_
  refine g_nil ?_
  refine g_qt ?_
  refine g_seq ?_
  refine g_seq ?_
  refine g_region ?_
  refine g_pure (p_move rfl) rfl ?_
  refine g_pure (p_eql rfl rfl) rfl ?_
  refine g_nil ?_
  refine g_qt ?_
  refine g_ifdL rfl (fun h1 => ?_) (fun h1 => ?_)
  · refine g_seq ?_
    refine g_region ?_
    refine g_pure (p_move rfl) rfl ?_
    refine g_pure (p_assign rfl) rfl ?_
    refine g_nil ?_
    refine g_qt ?_
    refine g_ret ?_
    refine g_qt_ret ?_
    exact g_post (rs := [.tmp 4]) rfl (.tmp rfl .nil) ⟨by first | (rw [if_pos (by assumption)]; rfl) | (rw [if_neg (by assumption)]; rfl), rfl⟩ .nil
  · refine g_skip ?_
    refine g_qt ?_
    refine g_seq ?_
    refine g_region ?_
    refine g_pure (p_move rfl) rfl ?_
    refine g_pure (p_move rfl) rfl ?_
    refine g_pure (p_rem rfl rfl (by assumption)) rfl ?_
    refine g_pure (p_assign rfl) rfl ?_
    refine g_nil ?_
    refine g_qt ?_
    refine g_ret ?_
    exact g_post (rs := [.tmp 4]) rfl (.tmp rfl .nil) ⟨by first | (rw [if_pos (by assumption)]; rfl) | (rw [if_neg (by assumption)]; rfl), rfl⟩ .nil
theorem group_ok {ρ : Nat → Obj → Prop} (op : Int) : Con Try.prog ρ 72 #[.int .i64 op] [] (fun v H => ∃ k n : Int, v = .tuple #[.int .i64 k, .int .i64 n] ∧ groupF op = (k, n.toNat) ∧ 0 ≤ n ∧ H = []) := by
  refine con_intro Try.func72 Try.call72 rfl Try.ntmps72 rfl (L := [(0, _)]) rfl fun w hh => ?_
  refine g_seq ?_
  refine g_region ?_
  refine g_pure (p_assign rfl) rfl ?_
  refine g_pure (p_assign rfl) rfl ?_
  refine g_nil ?_
  refine g_qt ?_
  refine g_seq ?_
  refine g_region ?_
  refine g_pure (p_assign rfl) rfl ?_
  refine g_nil ?_
  refine g_qt ?_
  refine g_seq ?_
  refine g_seq ?_
  refine g_region ?_
  refine g_pure (p_move rfl) rfl ?_
  refine g_nil ?_
  refine g_qt ?_
  refine g_block ?_
  refine g_seq ?_
  refine g_block ?_
  refine g_seq ?_
  refine g_block ?_
  refine g_seq ?_
  refine g_block ?_
  refine g_seq ?_
  refine g_block ?_
  refine g_seq ?_
  refine g_block ?_
  refine g_seq ?_
  refine g_block ?_
  refine g_seq ?_
  refine g_seq ?_
  refine g_seq ?_
  refine g_region ?_
  refine g_pure (p_eql rfl rfl) rfl ?_
  refine g_pure (p_assign rfl) rfl ?_
  refine g_nil ?_
  refine g_qt ?_
  refine g_ifdL rfl (fun h1 => ?_) (fun h1 => ?_)
  · refine g_exit ?_
    refine g_qt_exit ?_
    refine g_qt_exit ?_
    refine g_qb_exit ?_
    refine g_qt ?_
    refine g_region ?_
    refine g_pure (p_assign rfl) rfl ?_
    refine g_nil ?_
    refine g_qb ?_
    refine g_qt ?_
    refine g_seq ?_
    refine g_seq ?_
    refine g_region ?_
    refine g_pure (p_move rfl) rfl ?_
    refine g_pure (p_assign rfl) rfl ?_
    refine g_pure (p_assign rfl) rfl ?_
    refine g_nil ?_
    refine g_qt ?_
    refine g_ret ?_
    refine g_qt_ret ?_
    refine g_qb_ret ?_
    refine g_qt_ret ?_
    refine g_qb_ret ?_
    refine g_qt_ret ?_
    refine g_qb_ret ?_
    refine g_qt_ret ?_
    refine g_qb_ret ?_
    refine g_qt_ret ?_
    refine g_qb_ret ?_
    refine g_qt_ret ?_
    exact g_post (rs := [.tmp 2, .tmp 3]) rfl (.tmp rfl (.tmp rfl .nil)) ⟨_, _, rfl, by unfold groupF; (repeat' split) <;> first | rfl | (exfalso; omega), by decide, rfl⟩ .nil
  · refine g_skip ?_
    refine g_qt ?_
    refine g_seq ?_
    refine g_seq ?_
    refine g_seq ?_
    refine g_region ?_
    refine g_pure (p_eql rfl rfl) rfl ?_
    refine g_pure (p_assign rfl) rfl ?_
    refine g_nil ?_
    refine g_qt ?_
    refine g_ifdL rfl (fun h2 => ?_) (fun h2 => ?_)
    · refine g_skip ?_
      refine g_qt ?_
      refine g_ift rfl ?_
      refine g_exit ?_
      refine g_qt_exit ?_
      refine g_qt_exit ?_
      refine g_qb_other rfl ?_
      refine g_qt_exit ?_
      refine g_qb_exit ?_
      refine g_qt ?_
      refine g_seq ?_
      refine g_seq ?_
      refine g_region ?_
      refine g_pure (p_move rfl) rfl ?_
      refine g_pure (p_assign rfl) rfl ?_
      refine g_pure (p_assign rfl) rfl ?_
      refine g_nil ?_
      refine g_qt ?_
      refine g_ret ?_
      refine g_qt_ret ?_
      refine g_qb_ret ?_
      refine g_qt_ret ?_
      refine g_qb_ret ?_
      refine g_qt_ret ?_
      refine g_qb_ret ?_
      refine g_qt_ret ?_
      refine g_qb_ret ?_
      refine g_qt_ret ?_
      refine g_qb_ret ?_
      refine g_qt_ret ?_
      exact g_post (rs := [.tmp 2, .tmp 3]) rfl (.tmp rfl (.tmp rfl .nil)) ⟨_, _, rfl, by unfold groupF; (repeat' split) <;> first | rfl | (exfalso; omega), by decide, rfl⟩ .nil
    · refine g_seq ?_
      refine g_region ?_
      refine g_pure (p_eql rfl rfl) rfl ?_
      refine g_pure (p_assign rfl) rfl ?_
      refine g_nil ?_
      refine g_qt ?_
      refine g_ifdL rfl (fun h4 => ?_) (fun h4 => ?_)
      · refine g_skip ?_
        refine g_qt ?_
        refine g_ift rfl ?_
        refine g_exit ?_
        refine g_qt_exit ?_
        refine g_qt_exit ?_
        refine g_qb_other rfl ?_
        refine g_qt_exit ?_
        refine g_qb_exit ?_
        refine g_qt ?_
        refine g_seq ?_
        refine g_seq ?_
        refine g_region ?_
        refine g_pure (p_move rfl) rfl ?_
        refine g_pure (p_assign rfl) rfl ?_
        refine g_pure (p_assign rfl) rfl ?_
        refine g_nil ?_
        refine g_qt ?_
        refine g_ret ?_
        refine g_qt_ret ?_
        refine g_qb_ret ?_
        refine g_qt_ret ?_
        refine g_qb_ret ?_
        refine g_qt_ret ?_
        refine g_qb_ret ?_
        refine g_qt_ret ?_
        refine g_qb_ret ?_
        refine g_qt_ret ?_
        refine g_qb_ret ?_
        refine g_qt_ret ?_
        exact g_post (rs := [.tmp 2, .tmp 3]) rfl (.tmp rfl (.tmp rfl .nil)) ⟨_, _, rfl, by unfold groupF; (repeat' split) <;> first | rfl | (exfalso; omega), by decide, rfl⟩ .nil
      · refine g_region ?_
        refine g_pure (p_eql rfl rfl) rfl ?_
        refine g_pure (p_assign rfl) rfl ?_
        refine g_nil ?_
        refine g_qt ?_
        refine g_ifdL rfl (fun h6 => ?_) (fun h6 => ?_)
        · refine g_exit ?_
          refine g_qt_exit ?_
          refine g_qt_exit ?_
          refine g_qb_other rfl ?_
          refine g_qt_exit ?_
          refine g_qb_exit ?_
          refine g_qt ?_
          refine g_seq ?_
          refine g_seq ?_
          refine g_region ?_
          refine g_pure (p_move rfl) rfl ?_
          refine g_pure (p_assign rfl) rfl ?_
          refine g_pure (p_assign rfl) rfl ?_
          refine g_nil ?_
          refine g_qt ?_
          refine g_ret ?_
          refine g_qt_ret ?_
          refine g_qb_ret ?_
          refine g_qt_ret ?_
          refine g_qb_ret ?_
          refine g_qt_ret ?_
          refine g_qb_ret ?_
          refine g_qt_ret ?_
          refine g_qb_ret ?_
          refine g_qt_ret ?_
          refine g_qb_ret ?_
          refine g_qt_ret ?_
          exact g_post (rs := [.tmp 2, .tmp 3]) rfl (.tmp rfl (.tmp rfl .nil)) ⟨_, _, rfl, by unfold groupF; (repeat' split) <;> first | rfl | (exfalso; omega), by decide, rfl⟩ .nil
        · refine g_skip ?_
          refine g_qt ?_
          refine g_seq ?_
          refine g_seq ?_
          refine g_region ?_
          refine g_pure (p_eql rfl rfl) rfl ?_
          refine g_pure (p_assign rfl) rfl ?_
          refine g_nil ?_
          refine g_qt ?_
          refine g_ifdL rfl (fun h7 => ?_) (fun h7 => ?_)
          · refine g_exit ?_
            refine g_qt_exit ?_
            refine g_qt_exit ?_
            refine g_qb_other rfl ?_
            refine g_qt_exit ?_
            refine g_qb_other rfl ?_
            refine g_qt_exit ?_
            refine g_qb_exit ?_
            refine g_qt ?_
            refine g_region ?_
            refine g_pure (p_assign rfl) rfl ?_
            refine g_nil ?_
            refine g_qb ?_
            refine g_qt ?_
            refine g_seq ?_
            refine g_seq ?_
            refine g_region ?_
            refine g_pure (p_move rfl) rfl ?_
            refine g_pure (p_assign rfl) rfl ?_
            refine g_pure (p_assign rfl) rfl ?_
            refine g_nil ?_
            refine g_qt ?_
            refine g_ret ?_
            refine g_qt_ret ?_
            refine g_qb_ret ?_
            refine g_qt_ret ?_
            refine g_qb_ret ?_
            refine g_qt_ret ?_
            refine g_qb_ret ?_
            refine g_qt_ret ?_
            exact g_post (rs := [.tmp 2, .tmp 3]) rfl (.tmp rfl (.tmp rfl .nil)) ⟨_, _, rfl, by unfold groupF; (repeat' split) <;> first | rfl | (exfalso; omega), by decide, rfl⟩ .nil
          · refine g_skip ?_
            refine g_qt ?_
            refine g_seq ?_
            refine g_seq ?_
            refine g_seq ?_
            refine g_region ?_
            refine g_pure (p_eql rfl rfl) rfl ?_
            refine g_pure (p_assign rfl) rfl ?_
            refine g_nil ?_
            refine g_qt ?_
            refine g_ifdL rfl (fun h8 => ?_) (fun h8 => ?_)
            · refine g_skip ?_
              refine g_qt ?_
              refine g_ift rfl ?_
              refine g_exit ?_
              refine g_qt_exit ?_
              refine g_qt_exit ?_
              refine g_qb_other rfl ?_
              refine g_qt_exit ?_
              refine g_qb_other rfl ?_
              refine g_qt_exit ?_
              refine g_qb_other rfl ?_
              refine g_qt_exit ?_
              refine g_qb_exit ?_
              refine g_qt ?_
              refine g_seq ?_
              refine g_seq ?_
              refine g_region ?_
              refine g_pure (p_move rfl) rfl ?_
              refine g_pure (p_assign rfl) rfl ?_
              refine g_pure (p_assign rfl) rfl ?_
              refine g_nil ?_
              refine g_qt ?_
              refine g_ret ?_
              refine g_qt_ret ?_
              refine g_qb_ret ?_
              refine g_qt_ret ?_
              refine g_qb_ret ?_
              refine g_qt_ret ?_
              refine g_qb_ret ?_
              refine g_qt_ret ?_
              exact g_post (rs := [.tmp 2, .tmp 3]) rfl (.tmp rfl (.tmp rfl .nil)) ⟨_, _, rfl, by unfold groupF; (repeat' split) <;> first | rfl | (exfalso; omega), by decide, rfl⟩ .nil
            · refine g_seq ?_
              refine g_region ?_
              refine g_pure (p_eql rfl rfl) rfl ?_
              refine g_pure (p_assign rfl) rfl ?_
              refine g_nil ?_
              refine g_qt ?_
              refine g_ifdL rfl (fun h10 => ?_) (fun h10 => ?_)
              · refine g_skip ?_
                refine g_qt ?_
                refine g_ift rfl ?_
                refine g_exit ?_
                refine g_qt_exit ?_
                refine g_qt_exit ?_
                refine g_qb_other rfl ?_
                refine g_qt_exit ?_
                refine g_qb_other rfl ?_
                refine g_qt_exit ?_
                refine g_qb_other rfl ?_
                refine g_qt_exit ?_
                refine g_qb_exit ?_
                refine g_qt ?_
                refine g_seq ?_
                refine g_seq ?_
                refine g_region ?_
                refine g_pure (p_move rfl) rfl ?_
                refine g_pure (p_assign rfl) rfl ?_
                refine g_pure (p_assign rfl) rfl ?_
                refine g_nil ?_
                refine g_qt ?_
                refine g_ret ?_
                refine g_qt_ret ?_
                refine g_qb_ret ?_
                refine g_qt_ret ?_
                refine g_qb_ret ?_
                refine g_qt_ret ?_
                refine g_qb_ret ?_
                refine g_qt_ret ?_
                exact g_post (rs := [.tmp 2, .tmp 3]) rfl (.tmp rfl (.tmp rfl .nil)) ⟨_, _, rfl, by unfold groupF; (repeat' split) <;> first | rfl | (exfalso; omega), by decide, rfl⟩ .nil
              · refine g_seq ?_
                refine g_region ?_
                refine g_pure (p_eql rfl rfl) rfl ?_
                refine g_pure (p_assign rfl) rfl ?_
                refine g_nil ?_
                refine g_qt ?_
                refine g_ifdL rfl (fun h12 => ?_) (fun h12 => ?_)
                · refine g_skip ?_
                  refine g_qt ?_
                  refine g_ift rfl ?_
                  refine g_exit ?_
                  refine g_qt_exit ?_
                  refine g_qt_exit ?_
                  refine g_qb_other rfl ?_
                  refine g_qt_exit ?_
                  refine g_qb_other rfl ?_
                  refine g_qt_exit ?_
                  refine g_qb_other rfl ?_
                  refine g_qt_exit ?_
                  refine g_qb_exit ?_
                  refine g_qt ?_
                  refine g_seq ?_
                  refine g_seq ?_
                  refine g_region ?_
                  refine g_pure (p_move rfl) rfl ?_
                  refine g_pure (p_assign rfl) rfl ?_
                  refine g_pure (p_assign rfl) rfl ?_
                  refine g_nil ?_
                  refine g_qt ?_
                  refine g_ret ?_
                  refine g_qt_ret ?_
                  refine g_qb_ret ?_
                  refine g_qt_ret ?_
                  refine g_qb_ret ?_
                  refine g_qt_ret ?_
                  refine g_qb_ret ?_
                  refine g_qt_ret ?_
                  exact g_post (rs := [.tmp 2, .tmp 3]) rfl (.tmp rfl (.tmp rfl .nil)) ⟨_, _, rfl, by unfold groupF; (repeat' split) <;> first | rfl | (exfalso; omega), by decide, rfl⟩ .nil
                · refine g_seq ?_
                  refine g_region ?_
                  refine g_pure (p_eql rfl rfl) rfl ?_
                  refine g_pure (p_assign rfl) rfl ?_
                  refine g_nil ?_
                  refine g_qt ?_
                  refine g_ifdL rfl (fun h14 => ?_) (fun h14 => ?_)
                  · refine g_skip ?_
                    refine g_qt ?_
                    refine g_ift rfl ?_
                    refine g_exit ?_
                    refine g_qt_exit ?_
                    refine g_qt_exit ?_
                    refine g_qb_other rfl ?_
                    refine g_qt_exit ?_
                    refine g_qb_other rfl ?_
                    refine g_qt_exit ?_
                    refine g_qb_other rfl ?_
                    refine g_qt_exit ?_
                    refine g_qb_exit ?_
                    refine g_qt ?_
                    refine g_seq ?_
                    refine g_seq ?_
                    refine g_region ?_
                    refine g_pure (p_move rfl) rfl ?_
                    refine g_pure (p_assign rfl) rfl ?_
                    refine g_pure (p_assign rfl) rfl ?_
                    refine g_nil ?_
                    refine g_qt ?_
                    refine g_ret ?_
                    refine g_qt_ret ?_
                    refine g_qb_ret ?_
                    refine g_qt_ret ?_
                    refine g_qb_ret ?_
                    refine g_qt_ret ?_
                    refine g_qb_ret ?_
                    refine g_qt_ret ?_
                    exact g_post (rs := [.tmp 2, .tmp 3]) rfl (.tmp rfl (.tmp rfl .nil)) ⟨_, _, rfl, by unfold groupF; (repeat' split) <;> first | rfl | (exfalso; omega), by decide, rfl⟩ .nil
                  · refine g_region ?_
                    refine g_pure (p_eql rfl rfl) rfl ?_
                    refine g_pure (p_assign rfl) rfl ?_
                    refine g_nil ?_
                    refine g_qt ?_
                    refine g_ifdL rfl (fun h16 => ?_) (fun h16 => ?_)
                    · refine g_exit ?_
                      refine g_qt_exit ?_
                      refine g_qt_exit ?_
                      refine g_qb_other rfl ?_
                      refine g_qt_exit ?_
                      refine g_qb_other rfl ?_
                      refine g_qt_exit ?_
                      refine g_qb_other rfl ?_
                      refine g_qt_exit ?_
                      refine g_qb_exit ?_
                      refine g_qt ?_
                      refine g_seq ?_
                      refine g_seq ?_
                      refine g_region ?_
                      refine g_pure (p_move rfl) rfl ?_
                      refine g_pure (p_assign rfl) rfl ?_
                      refine g_pure (p_assign rfl) rfl ?_
                      refine g_nil ?_
                      refine g_qt ?_
                      refine g_ret ?_
                      refine g_qt_ret ?_
                      refine g_qb_ret ?_
                      refine g_qt_ret ?_
                      refine g_qb_ret ?_
                      refine g_qt_ret ?_
                      refine g_qb_ret ?_
                      refine g_qt_ret ?_
                      exact g_post (rs := [.tmp 2, .tmp 3]) rfl (.tmp rfl (.tmp rfl .nil)) ⟨_, _, rfl, by unfold groupF; (repeat' split) <;> first | rfl | (exfalso; omega), by decide, rfl⟩ .nil
                    · refine g_skip ?_
                      refine g_qt ?_
                      refine g_seq ?_
                      refine g_seq ?_
                      refine g_seq ?_
                      refine g_region ?_
                      refine g_pure (p_eql rfl rfl) rfl ?_
                      refine g_pure (p_assign rfl) rfl ?_
                      refine g_nil ?_
                      refine g_qt ?_
                      refine g_ifdL rfl (fun h17 => ?_) (fun h17 => ?_)
                      · refine g_skip ?_
                        refine g_qt ?_
                        refine g_ift rfl ?_
                        refine g_exit ?_
                        refine g_qt_exit ?_
                        refine g_qt_exit ?_
                        refine g_qb_other rfl ?_
                        refine g_qt_exit ?_
                        refine g_qb_other rfl ?_
                        refine g_qt_exit ?_
                        refine g_qb_other rfl ?_
                        refine g_qt_exit ?_
                        refine g_qb_other rfl ?_
                        refine g_qt_exit ?_
                        refine g_qb_exit ?_
                        refine g_qt ?_
                        refine g_seq ?_
                        refine g_seq ?_
                        refine g_region ?_
                        refine g_pure (p_move rfl) rfl ?_
                        refine g_pure (p_assign rfl) rfl ?_
                        refine g_pure (p_assign rfl) rfl ?_
                        refine g_nil ?_
                        refine g_qt ?_
                        refine g_ret ?_
                        refine g_qt_ret ?_
                        refine g_qb_ret ?_
                        refine g_qt_ret ?_
                        refine g_qb_ret ?_
                        refine g_qt_ret ?_
                        exact g_post (rs := [.tmp 2, .tmp 3]) rfl (.tmp rfl (.tmp rfl .nil)) ⟨_, _, rfl, by unfold groupF; (repeat' split) <;> first | rfl | (exfalso; omega), by decide, rfl⟩ .nil
                      · refine g_region ?_
                        refine g_pure (p_eql rfl rfl) rfl ?_
                        refine g_pure (p_assign rfl) rfl ?_
                        refine g_nil ?_
                        refine g_qt ?_
                        refine g_ifdL rfl (fun h19 => ?_) (fun h19 => ?_)
                        · refine g_exit ?_
                          refine g_qt_exit ?_
                          refine g_qt_exit ?_
                          refine g_qb_other rfl ?_
                          refine g_qt_exit ?_
                          refine g_qb_other rfl ?_
                          refine g_qt_exit ?_
                          refine g_qb_other rfl ?_
                          refine g_qt_exit ?_
                          refine g_qb_other rfl ?_
                          refine g_qt_exit ?_
                          refine g_qb_exit ?_
                          refine g_qt ?_
                          refine g_seq ?_
                          refine g_seq ?_
                          refine g_region ?_
                          refine g_pure (p_move rfl) rfl ?_
                          refine g_pure (p_assign rfl) rfl ?_
                          refine g_pure (p_assign rfl) rfl ?_
                          refine g_nil ?_
                          refine g_qt ?_
                          refine g_ret ?_
                          refine g_qt_ret ?_
                          refine g_qb_ret ?_
                          refine g_qt_ret ?_
                          refine g_qb_ret ?_
                          refine g_qt_ret ?_
                          exact g_post (rs := [.tmp 2, .tmp 3]) rfl (.tmp rfl (.tmp rfl .nil)) ⟨_, _, rfl, by unfold groupF; (repeat' split) <;> first | rfl | (exfalso; omega), by decide, rfl⟩ .nil
                        · refine g_skip ?_
                          refine g_qt ?_
                          refine g_seq ?_
                          refine g_seq ?_
                          refine g_region ?_
                          refine g_pure (p_eql rfl rfl) rfl ?_
                          refine g_pure (p_assign rfl) rfl ?_
                          refine g_nil ?_
                          refine g_qt ?_
                          refine g_ifdL rfl (fun h20 => ?_) (fun h20 => ?_)
                          · refine g_skip ?_
                            refine g_qt ?_
                            refine g_ift rfl ?_
                            refine g_exit ?_
                            refine g_qt_exit ?_
                            refine g_qb_other rfl ?_
                            refine g_qt_exit ?_
                            refine g_qb_other rfl ?_
                            refine g_qt_exit ?_
                            refine g_qb_other rfl ?_
                            refine g_qt_exit ?_
                            refine g_qb_other rfl ?_
                            refine g_qt_exit ?_
                            refine g_qb_other rfl ?_
                            refine g_qt_exit ?_
                            refine g_qb_exit ?_
                            refine g_qt ?_
                            refine g_seq ?_
                            refine g_seq ?_
                            refine g_region ?_
                            refine g_pure (p_move rfl) rfl ?_
                            refine g_pure (p_assign rfl) rfl ?_
                            refine g_pure (p_assign rfl) rfl ?_
                            refine g_nil ?_
                            refine g_qt ?_
                            refine g_ret ?_
                            refine g_qt_ret ?_
                            refine g_qb_ret ?_
                            refine g_qt_ret ?_
                            exact g_post (rs := [.tmp 2, .tmp 3]) rfl (.tmp rfl (.tmp rfl .nil)) ⟨_, _, rfl, by unfold groupF; (repeat' split) <;> first | rfl | (exfalso; omega), by decide, rfl⟩ .nil
                          · refine g_seq ?_
                            refine g_region ?_
                            refine g_pure (p_eql rfl rfl) rfl ?_
                            refine g_pure (p_assign rfl) rfl ?_
                            refine g_nil ?_
                            refine g_qt ?_
                            refine g_ifdL rfl (fun h22 => ?_) (fun h22 => ?_)
                            · refine g_skip ?_
                              refine g_qt ?_
                              refine g_ift rfl ?_
                              refine g_exit ?_
                              refine g_qt_exit ?_
                              refine g_qb_other rfl ?_
                              refine g_qt_exit ?_
                              refine g_qb_other rfl ?_
                              refine g_qt_exit ?_
                              refine g_qb_other rfl ?_
                              refine g_qt_exit ?_
                              refine g_qb_other rfl ?_
                              refine g_qt_exit ?_
                              refine g_qb_other rfl ?_
                              refine g_qt_exit ?_
                              refine g_qb_exit ?_
                              refine g_qt ?_
                              refine g_seq ?_
                              refine g_seq ?_
                              refine g_region ?_
                              refine g_pure (p_move rfl) rfl ?_
                              refine g_pure (p_assign rfl) rfl ?_
                              refine g_pure (p_assign rfl) rfl ?_
                              refine g_nil ?_
                              refine g_qt ?_
                              refine g_ret ?_
                              refine g_qt_ret ?_
                              refine g_qb_ret ?_
                              refine g_qt_ret ?_
                              exact g_post (rs := [.tmp 2, .tmp 3]) rfl (.tmp rfl (.tmp rfl .nil)) ⟨_, _, rfl, by unfold groupF; (repeat' split) <;> first | rfl | (exfalso; omega), by decide, rfl⟩ .nil
                            · refine g_seq ?_
                              refine g_region ?_
                              refine g_pure (p_eql rfl rfl) rfl ?_
                              refine g_pure (p_assign rfl) rfl ?_
                              refine g_nil ?_
                              refine g_qt ?_
                              refine g_ifdL rfl (fun h24 => ?_) (fun h24 => ?_)
                              · refine g_skip ?_
                                refine g_qt ?_
                                refine g_ift rfl ?_
                                refine g_exit ?_
                                refine g_qt_exit ?_
                                refine g_qb_other rfl ?_
                                refine g_qt_exit ?_
                                refine g_qb_other rfl ?_
                                refine g_qt_exit ?_
                                refine g_qb_other rfl ?_
                                refine g_qt_exit ?_
                                refine g_qb_other rfl ?_
                                refine g_qt_exit ?_
                                refine g_qb_other rfl ?_
                                refine g_qt_exit ?_
                                refine g_qb_exit ?_
                                refine g_qt ?_
                                refine g_seq ?_
                                refine g_seq ?_
                                refine g_region ?_
                                refine g_pure (p_move rfl) rfl ?_
                                refine g_pure (p_assign rfl) rfl ?_
                                refine g_pure (p_assign rfl) rfl ?_
                                refine g_nil ?_
                                refine g_qt ?_
                                refine g_ret ?_
                                refine g_qt_ret ?_
                                refine g_qb_ret ?_
                                refine g_qt_ret ?_
                                exact g_post (rs := [.tmp 2, .tmp 3]) rfl (.tmp rfl (.tmp rfl .nil)) ⟨_, _, rfl, by unfold groupF; (repeat' split) <;> first | rfl | (exfalso; omega), by decide, rfl⟩ .nil
                              · refine g_region ?_
                                refine g_pure (p_eql rfl rfl) rfl ?_
                                refine g_pure (p_assign rfl) rfl ?_
                                refine g_nil ?_
                                refine g_qt ?_
                                refine g_ifdL rfl (fun h26 => ?_) (fun h26 => ?_)
                                · refine g_exit ?_
                                  refine g_qt_exit ?_
                                  refine g_qb_other rfl ?_
                                  refine g_qt_exit ?_
                                  refine g_qb_other rfl ?_
                                  refine g_qt_exit ?_
                                  refine g_qb_other rfl ?_
                                  refine g_qt_exit ?_
                                  refine g_qb_other rfl ?_
                                  refine g_qt_exit ?_
                                  refine g_qb_other rfl ?_
                                  refine g_qt_exit ?_
                                  refine g_qb_exit ?_
                                  refine g_qt ?_
                                  refine g_seq ?_
                                  refine g_seq ?_
                                  refine g_region ?_
                                  refine g_pure (p_move rfl) rfl ?_
                                  refine g_pure (p_assign rfl) rfl ?_
                                  refine g_pure (p_assign rfl) rfl ?_
                                  refine g_nil ?_
                                  refine g_qt ?_
                                  refine g_ret ?_
                                  refine g_qt_ret ?_
                                  refine g_qb_ret ?_
                                  refine g_qt_ret ?_
                                  exact g_post (rs := [.tmp 2, .tmp 3]) rfl (.tmp rfl (.tmp rfl .nil)) ⟨_, _, rfl, by unfold groupF; (repeat' split) <;> first | rfl | (exfalso; omega), by decide, rfl⟩ .nil
                                · refine g_skip ?_
                                  refine g_qt ?_
                                  refine g_exit ?_
                                  refine g_qb_other rfl ?_
                                  refine g_qt_exit ?_
                                  refine g_qb_other rfl ?_
                                  refine g_qt_exit ?_
                                  refine g_qb_other rfl ?_
                                  refine g_qt_exit ?_
                                  refine g_qb_other rfl ?_
                                  refine g_qt_exit ?_
                                  refine g_qb_other rfl ?_
                                  refine g_qt_exit ?_
                                  refine g_qb_other rfl ?_
                                  refine g_qt_exit ?_
                                  refine g_qb_exit ?_
                                  refine g_qt ?_
                                  refine g_seq ?_
                                  refine g_region ?_
                                  refine g_pure (p_assign rfl) rfl ?_
                                  refine g_pure (p_assign rfl) rfl ?_
                                  refine g_nil ?_
                                  refine g_qt ?_
                                  refine g_ret ?_
                                  exact g_post (rs := [.tmp 2, .tmp 3]) rfl (.tmp rfl (.tmp rfl .nil)) ⟨_, _, rfl, by unfold groupF; (repeat' split) <;> first | rfl | (exfalso; omega), by decide, rfl⟩ .nil
theorem in_ok {ρ : Nat → Obj → Prop} (n : Int) : Con Try.prog ρ 73 #[.int .i64 n] [] (fun v H => v = .bool (decide (-32768 ≤ n ∧ n ≤ 32767)) ∧ H = []) := by
  refine con_intro Try.func73 Try.call73 rfl Try.ntmps73 rfl (L := [(0, _)]) rfl fun w hh => ?_
  refine g_seq ?_
  refine g_region ?_
  refine g_pure (p_assign rfl) rfl ?_
  refine g_nil ?_
  refine g_qt ?_
  refine g_seq ?_
  refine g_region ?_
  refine g_pure (p_move rfl) rfl ?_
  refine g_pure (p_leq rfl rfl) rfl ?_
  refine g_pure (p_move rfl) rfl ?_
  refine g_splitd rfl rfl (fun h1 => ?_) (fun h1 => ?_)
  · refine g_yes rfl rfl ?_
    refine g_pure (p_move rfl) rfl ?_
    refine g_yes rfl rfl ?_
    refine g_pure (p_leq rfl rfl) rfl ?_
    first | refine g_pure (p_pickt rfl rfl) rfl ?_ | refine g_pure (p_pickf rfl rfl) rfl ?_
    refine g_pure (p_assign rfl) rfl ?_
    refine g_nil ?_
    refine g_qt ?_
    refine g_ret ?_
    exact g_post (rs := [.tmp 2]) rfl (.tmp rfl .nil) ⟨by first | (rw [decide_eq_false (by omega)]; rfl) | (show Value.bool (decide _) = Value.bool (decide _); congr 1; rw [decide_eq_decide]; omega), rfl⟩ .nil
  · refine g_no rfl rfl rfl rfl ?_
    refine g_no rfl rfl rfl rfl ?_
    first | refine g_pure (p_pickt rfl rfl) rfl ?_ | refine g_pure (p_pickf rfl rfl) rfl ?_
    refine g_pure (p_assign rfl) rfl ?_
    refine g_nil ?_
    refine g_qt ?_
    refine g_ret ?_
    exact g_post (rs := [.tmp 2]) rfl (.tmp rfl .nil) ⟨by first | (rw [decide_eq_false (by omega)]; rfl) | (show Value.bool (decide _) = Value.bool (decide _); congr 1; rw [decide_eq_decide]; omega), rfl⟩ .nil
theorem compute_ok {ρ : Nat → Obj → Prop} (op a b : Int) : Con Try.prog ρ 74 #[.int .i64 op, .int .i64 a, .int .i64 b] [] (fun v H => ∃ r, v = .int .i64 r ∧ computeF op a b = r ∧ H = []) := by
  refine con_intro Try.func74 Try.call74 rfl Try.ntmps74 rfl (L := [(0, _), (1, _), (2, _)]) rfl fun w hh => ?_
  refine g_seq ?_
  refine g_region ?_
  refine g_pure (p_assign rfl) rfl ?_
  refine g_nil ?_
  refine g_qt ?_
  refine g_seq ?_
  refine g_seq ?_
  refine g_region ?_
  refine g_pure (p_move rfl) rfl ?_
  refine g_nil ?_
  refine g_qt ?_
  refine g_block ?_
  refine g_seq ?_
  refine g_region ?_
  refine g_pure (p_eql rfl rfl) rfl ?_
  refine g_pure (p_assign rfl) rfl ?_
  refine g_nil ?_
  refine g_qt ?_
  refine g_ifdL rfl (fun h1 => ?_) (fun h1 => ?_)
  · refine g_seq ?_
    refine g_region ?_
    refine g_pure (p_move rfl) rfl ?_
    refine g_call (Hin := []) (Hr := ?hr17) (R := ?rr17) rfl rfl rfl ?hin17 ?hc17 ?hk17
    case hin17 => repeat' (first | exact Cover.nil | exact Take.here | apply Cover.cons | apply Take.there)
    case hc17 => intro ρ' hρ hR; exact neg_ok _
    rintro _ _ ⟨rfl, rfl⟩
    refine g_pure (p_assign rfl) rfl ?_
    refine g_nil ?_
    refine g_qt ?_
    refine g_ret ?_
    refine g_qb_ret ?_
    refine g_qt_ret ?_
    exact g_post (rs := [.tmp 6]) rfl (.tmp rfl .nil) ⟨_, rfl, by unfold computeF; (repeat' split) <;> first | rfl | (exfalso; omega), rfl⟩ .nil
  · refine g_seq ?_
    refine g_region ?_
    refine g_pure (p_eql rfl rfl) rfl ?_
    refine g_pure (p_assign rfl) rfl ?_
    refine g_nil ?_
    refine g_qt ?_
    refine g_ifdL rfl (fun h2 => ?_) (fun h2 => ?_)
    · refine g_seq ?_
      refine g_region ?_
      refine g_pure (p_move rfl) rfl ?_
      refine g_pure (p_move rfl) rfl ?_
      refine g_call (Hin := []) (Hr := ?hr18) (R := ?rr18) rfl rfl rfl ?hin18 ?hc18 ?hk18
      case hin18 => repeat' (first | exact Cover.nil | exact Take.here | apply Cover.cons | apply Take.there)
      case hc18 => intro ρ' hρ hR; exact wadd_ok _ _
      rintro _ _ ⟨rfl, rfl⟩
      refine g_pure (p_assign rfl) rfl ?_
      refine g_nil ?_
      refine g_qt ?_
      refine g_ret ?_
      refine g_qb_ret ?_
      refine g_qt_ret ?_
      exact g_post (rs := [.tmp 6]) rfl (.tmp rfl .nil) ⟨_, rfl, by unfold computeF; (repeat' split) <;> first | rfl | (exfalso; omega), rfl⟩ .nil
    · refine g_seq ?_
      refine g_region ?_
      refine g_pure (p_eql rfl rfl) rfl ?_
      refine g_pure (p_assign rfl) rfl ?_
      refine g_nil ?_
      refine g_qt ?_
      refine g_ifdL rfl (fun h3 => ?_) (fun h3 => ?_)
      · refine g_seq ?_
        refine g_region ?_
        refine g_pure (p_move rfl) rfl ?_
        refine g_pure (p_move rfl) rfl ?_
        refine g_call (Hin := []) (Hr := ?hr19) (R := ?rr19) rfl rfl rfl ?hin19 ?hc19 ?hk19
        case hin19 => repeat' (first | exact Cover.nil | exact Take.here | apply Cover.cons | apply Take.there)
        case hc19 => intro ρ' hρ hR; exact sub_ok _ _
        rintro _ _ ⟨rfl, rfl⟩
        refine g_pure (p_assign rfl) rfl ?_
        refine g_nil ?_
        refine g_qt ?_
        refine g_ret ?_
        refine g_qb_ret ?_
        refine g_qt_ret ?_
        exact g_post (rs := [.tmp 6]) rfl (.tmp rfl .nil) ⟨_, rfl, by unfold computeF; (repeat' split) <;> first | rfl | (exfalso; omega), rfl⟩ .nil
      · refine g_seq ?_
        refine g_region ?_
        refine g_pure (p_eql rfl rfl) rfl ?_
        refine g_pure (p_assign rfl) rfl ?_
        refine g_nil ?_
        refine g_qt ?_
        refine g_ifdL rfl (fun h4 => ?_) (fun h4 => ?_)
        · refine g_seq ?_
          refine g_region ?_
          refine g_pure (p_move rfl) rfl ?_
          refine g_pure (p_move rfl) rfl ?_
          refine g_call (Hin := []) (Hr := ?hr20) (R := ?rr20) rfl rfl rfl ?hin20 ?hc20 ?hk20
          case hin20 => repeat' (first | exact Cover.nil | exact Take.here | apply Cover.cons | apply Take.there)
          case hc20 => intro ρ' hρ hR; exact mul_ok _ _
          rintro _ _ ⟨rfl, rfl⟩
          refine g_pure (p_assign rfl) rfl ?_
          refine g_nil ?_
          refine g_qt ?_
          refine g_ret ?_
          refine g_qb_ret ?_
          refine g_qt_ret ?_
          exact g_post (rs := [.tmp 6]) rfl (.tmp rfl .nil) ⟨_, rfl, by unfold computeF; (repeat' split) <;> first | rfl | (exfalso; omega), rfl⟩ .nil
        · refine g_seq ?_
          refine g_region ?_
          refine g_pure (p_eql rfl rfl) rfl ?_
          refine g_pure (p_assign rfl) rfl ?_
          refine g_nil ?_
          refine g_qt ?_
          refine g_ifdL rfl (fun h5 => ?_) (fun h5 => ?_)
          · refine g_seq ?_
            refine g_region ?_
            refine g_pure (p_move rfl) rfl ?_
            refine g_pure (p_move rfl) rfl ?_
            refine g_call (Hin := []) (Hr := ?hr21) (R := ?rr21) rfl rfl rfl ?hin21 ?hc21 ?hk21
            case hin21 => repeat' (first | exact Cover.nil | exact Take.here | apply Cover.cons | apply Take.there)
            case hc21 => intro ρ' hρ hR; exact div_ok _ _
            rintro _ _ ⟨rfl, rfl⟩
            refine g_pure (p_assign rfl) rfl ?_
            refine g_nil ?_
            refine g_qt ?_
            refine g_ret ?_
            refine g_qb_ret ?_
            refine g_qt_ret ?_
            exact g_post (rs := [.tmp 6]) rfl (.tmp rfl .nil) ⟨_, rfl, by unfold computeF; (repeat' split) <;> first | rfl | (exfalso; omega), rfl⟩ .nil
          · refine g_skip ?_
            refine g_qb ?_
            refine g_qt ?_
            refine g_seq ?_
            refine g_region ?_
            refine g_pure (p_move rfl) rfl ?_
            refine g_pure (p_move rfl) rfl ?_
            refine g_call (Hin := []) (Hr := ?hr22) (R := ?rr22) rfl rfl rfl ?hin22 ?hc22 ?hk22
            case hin22 => repeat' (first | exact Cover.nil | exact Take.here | apply Cover.cons | apply Take.there)
            case hc22 => intro ρ' hρ hR; exact mod_ok _ _
            rintro _ _ ⟨rfl, rfl⟩
            refine g_pure (p_assign rfl) rfl ?_
            refine g_nil ?_
            refine g_qt ?_
            refine g_ret ?_
            exact g_post (rs := [.tmp 6]) rfl (.tmp rfl .nil) ⟨_, rfl, by unfold computeF; (repeat' split) <;> first | rfl | (exfalso; omega), rfl⟩ .nil
theorem truth_ok {ρ : Nat → Obj → Prop} (b : Bool) : Con Try.prog ρ 75 #[.bool b] [] (fun v H => v = .int .i64 (truth b) ∧ H = []) := by
  refine con_intro Try.func75 Try.call75 rfl Try.ntmps75 rfl (L := [(0, _)]) rfl fun w hh => ?_
  refine g_seq ?_
  refine g_region ?_
  refine g_pure (p_assign rfl) rfl ?_
  refine g_nil ?_
  refine g_qt ?_
  refine g_seq ?_
  refine g_seq ?_
  refine g_region ?_
  refine g_pure (p_move rfl) rfl ?_
  refine g_nil ?_
  refine g_qt ?_
  refine g_ifL rfl (fun h1 => ?_) (fun h1 => ?_)
  · refine g_seq ?_
    refine g_region ?_
    refine g_pure (p_assign rfl) rfl ?_
    refine g_nil ?_
    refine g_qt ?_
    refine g_ret ?_
    refine g_qt_ret ?_
    exact g_post (rs := [.tmp 2]) rfl (.tmp rfl .nil) ⟨by rw [h1]; rfl, rfl⟩ .nil
  · refine g_skip ?_
    refine g_qt ?_
    refine g_seq ?_
    refine g_region ?_
    refine g_pure (p_assign rfl) rfl ?_
    refine g_nil ?_
    refine g_qt ?_
    refine g_ret ?_
    exact g_post (rs := [.tmp 2]) rfl (.tmp rfl .nil) ⟨by rw [h1]; rfl, rfl⟩ .nil
theorem holds_ok {ρ : Nat → Obj → Prop} (op a b : Int) : Con Try.prog ρ 76 #[.int .i64 op, .int .i64 a, .int .i64 b] [] (fun v H => ∃ r, v = .bool r ∧ holdsF op a b = r ∧ H = []) := by
  refine con_intro Try.func76 Try.call76 rfl Try.ntmps76 rfl (L := [(0, _), (1, _), (2, _)]) rfl fun w hh => ?_
  refine g_seq ?_
  refine g_region ?_
  refine g_pure (p_assign rfl) rfl ?_
  refine g_nil ?_
  refine g_qt ?_
  refine g_seq ?_
  refine g_seq ?_
  refine g_region ?_
  refine g_pure (p_move rfl) rfl ?_
  refine g_nil ?_
  refine g_qt ?_
  refine g_block ?_
  refine g_seq ?_
  refine g_region ?_
  refine g_pure (p_eql rfl rfl) rfl ?_
  refine g_pure (p_assign rfl) rfl ?_
  refine g_nil ?_
  refine g_qt ?_
  refine g_ifdL rfl (fun h1 => ?_) (fun h1 => ?_)
  · refine g_seq ?_
    refine g_region ?_
    refine g_pure (p_move rfl) rfl ?_
    refine g_pure (p_eql rfl rfl) rfl ?_
    refine g_pure (p_assign rfl) rfl ?_
    refine g_nil ?_
    refine g_qt ?_
    refine g_ret ?_
    refine g_qb_ret ?_
    refine g_qt_ret ?_
    exact g_post (rs := [.tmp 6]) rfl (.tmp rfl .nil) ⟨_, rfl, by unfold holdsF; (repeat' split) <;> first | rfl | (exfalso; omega) | simp [*], rfl⟩ .nil
  · refine g_seq ?_
    refine g_region ?_
    refine g_pure (p_eql rfl rfl) rfl ?_
    refine g_pure (p_assign rfl) rfl ?_
    refine g_nil ?_
    refine g_qt ?_
    refine g_ifdL rfl (fun h2 => ?_) (fun h2 => ?_)
    · refine g_seq ?_
      refine g_region ?_
      refine g_pure (p_move rfl) rfl ?_
      refine g_pure (p_eql rfl rfl) rfl ?_
      refine g_pure (p_move rfl) rfl ?_
      refine g_splitd rfl rfl (fun h3 => ?_) (fun h3 => ?_)
      · refine g_yes rfl rfl ?_
        refine g_pure (p_move rfl) rfl ?_
        refine g_yes rfl rfl ?_
        refine g_pure (p_eql rfl rfl) rfl ?_
        first | refine g_pure (p_pickt rfl rfl) rfl ?_ | refine g_pure (p_pickf rfl rfl) rfl ?_
        refine g_pure (p_assign rfl) rfl ?_
        refine g_nil ?_
        refine g_qt ?_
        refine g_ret ?_
        refine g_qb_ret ?_
        refine g_qt_ret ?_
        exact g_post (rs := [.tmp 6]) rfl (.tmp rfl .nil) ⟨_, rfl, by unfold holdsF; (repeat' split) <;> first | rfl | (exfalso; omega) | simp [*], rfl⟩ .nil
      · refine g_no rfl rfl rfl rfl ?_
        refine g_no rfl rfl rfl rfl ?_
        first | refine g_pure (p_pickt rfl rfl) rfl ?_ | refine g_pure (p_pickf rfl rfl) rfl ?_
        refine g_pure (p_assign rfl) rfl ?_
        refine g_nil ?_
        refine g_qt ?_
        refine g_ret ?_
        refine g_qb_ret ?_
        refine g_qt_ret ?_
        exact g_post (rs := [.tmp 6]) rfl (.tmp rfl .nil) ⟨_, rfl, by unfold holdsF; (repeat' split) <;> first | rfl | (exfalso; omega) | simp [*], rfl⟩ .nil
    · refine g_seq ?_
      refine g_region ?_
      refine g_pure (p_eql rfl rfl) rfl ?_
      refine g_pure (p_assign rfl) rfl ?_
      refine g_nil ?_
      refine g_qt ?_
      refine g_ifdL rfl (fun h4 => ?_) (fun h4 => ?_)
      · refine g_seq ?_
        refine g_region ?_
        refine g_pure (p_move rfl) rfl ?_
        refine g_pure (p_eql rfl rfl) rfl ?_
        refine g_pure (p_move rfl) rfl ?_
        refine g_splitd rfl rfl (fun h5 => ?_) (fun h5 => ?_)
        · refine g_no rfl rfl rfl rfl ?_
          refine g_no rfl rfl rfl rfl ?_
          first | refine g_pure (p_pickt rfl rfl) rfl ?_ | refine g_pure (p_pickf rfl rfl) rfl ?_
          refine g_pure (p_assign rfl) rfl ?_
          refine g_nil ?_
          refine g_qt ?_
          refine g_ret ?_
          refine g_qb_ret ?_
          refine g_qt_ret ?_
          exact g_post (rs := [.tmp 6]) rfl (.tmp rfl .nil) ⟨_, rfl, by unfold holdsF; (repeat' split) <;> first | rfl | (exfalso; omega) | simp [*], rfl⟩ .nil
        · refine g_yes rfl rfl ?_
          refine g_pure (p_move rfl) rfl ?_
          refine g_yes rfl rfl ?_
          refine g_pure (p_eql rfl rfl) rfl ?_
          first | refine g_pure (p_pickt rfl rfl) rfl ?_ | refine g_pure (p_pickf rfl rfl) rfl ?_
          refine g_pure (p_assign rfl) rfl ?_
          refine g_nil ?_
          refine g_qt ?_
          refine g_ret ?_
          refine g_qb_ret ?_
          refine g_qt_ret ?_
          exact g_post (rs := [.tmp 6]) rfl (.tmp rfl .nil) ⟨_, rfl, by unfold holdsF; (repeat' split) <;> first | rfl | (exfalso; omega) | simp [*], rfl⟩ .nil
      · refine g_seq ?_
        refine g_region ?_
        refine g_pure (p_eql rfl rfl) rfl ?_
        refine g_pure (p_assign rfl) rfl ?_
        refine g_nil ?_
        refine g_qt ?_
        refine g_ifdL rfl (fun h6 => ?_) (fun h6 => ?_)
        · refine g_seq ?_
          refine g_region ?_
          refine g_pure (p_move rfl) rfl ?_
          refine g_pure (p_move rfl) rfl ?_
          refine g_pure (p_eql rfl rfl) rfl ?_
          refine g_pure (p_assign rfl) rfl ?_
          refine g_nil ?_
          refine g_qt ?_
          refine g_ret ?_
          refine g_qb_ret ?_
          refine g_qt_ret ?_
          exact g_post (rs := [.tmp 6]) rfl (.tmp rfl .nil) ⟨_, rfl, by unfold holdsF; (repeat' split) <;> first | rfl | (exfalso; omega) | simp [*], rfl⟩ .nil
        · refine g_seq ?_
          refine g_seq ?_
          refine g_region ?_
          refine g_pure (p_eql rfl rfl) rfl ?_
          refine g_pure (p_assign rfl) rfl ?_
          refine g_nil ?_
          refine g_qt ?_
          refine g_ifdL rfl (fun h7 => ?_) (fun h7 => ?_)
          · refine g_skip ?_
            refine g_qt ?_
            refine g_ift rfl ?_
            refine g_seq ?_
            refine g_region ?_
            refine g_pure (p_move rfl) rfl ?_
            refine g_pure (p_move rfl) rfl ?_
            refine g_pure (p_neq rfl rfl) rfl ?_
            refine g_pure (p_assign rfl) rfl ?_
            refine g_nil ?_
            refine g_qt ?_
            refine g_ret ?_
            refine g_qb_ret ?_
            refine g_qt_ret ?_
            exact g_post (rs := [.tmp 6]) rfl (.tmp rfl .nil) ⟨_, rfl, by unfold holdsF; (repeat' split) <;> first | rfl | (exfalso; omega) | simp [*], rfl⟩ .nil
          · refine g_region ?_
            refine g_pure (p_eql rfl rfl) rfl ?_
            refine g_pure (p_assign rfl) rfl ?_
            refine g_nil ?_
            refine g_qt ?_
            refine g_ifdL rfl (fun h9 => ?_) (fun h9 => ?_)
            · refine g_seq ?_
              refine g_region ?_
              refine g_pure (p_move rfl) rfl ?_
              refine g_pure (p_move rfl) rfl ?_
              refine g_pure (p_neq rfl rfl) rfl ?_
              refine g_pure (p_assign rfl) rfl ?_
              refine g_nil ?_
              refine g_qt ?_
              refine g_ret ?_
              refine g_qb_ret ?_
              refine g_qt_ret ?_
              exact g_post (rs := [.tmp 6]) rfl (.tmp rfl .nil) ⟨_, rfl, by unfold holdsF; (repeat' split) <;> first | rfl | (exfalso; omega) | simp [*], rfl⟩ .nil
            · refine g_seq ?_
              refine g_region ?_
              refine g_pure (p_eql rfl rfl) rfl ?_
              refine g_pure (p_assign rfl) rfl ?_
              refine g_nil ?_
              refine g_qt ?_
              refine g_ifdL rfl (fun h10 => ?_) (fun h10 => ?_)
              · refine g_seq ?_
                refine g_region ?_
                refine g_pure (p_move rfl) rfl ?_
                refine g_pure (p_move rfl) rfl ?_
                refine g_pure (p_lss rfl rfl) rfl ?_
                refine g_pure (p_assign rfl) rfl ?_
                refine g_nil ?_
                refine g_qt ?_
                refine g_ret ?_
                refine g_qb_ret ?_
                refine g_qt_ret ?_
                exact g_post (rs := [.tmp 6]) rfl (.tmp rfl .nil) ⟨_, rfl, by unfold holdsF; (repeat' split) <;> first | rfl | (exfalso; omega) | simp [*], rfl⟩ .nil
              · refine g_seq ?_
                refine g_region ?_
                refine g_pure (p_eql rfl rfl) rfl ?_
                refine g_pure (p_assign rfl) rfl ?_
                refine g_nil ?_
                refine g_qt ?_
                refine g_ifdL rfl (fun h11 => ?_) (fun h11 => ?_)
                · refine g_seq ?_
                  refine g_region ?_
                  refine g_pure (p_move rfl) rfl ?_
                  refine g_pure (p_move rfl) rfl ?_
                  refine g_pure (p_leq rfl rfl) rfl ?_
                  refine g_pure (p_assign rfl) rfl ?_
                  refine g_nil ?_
                  refine g_qt ?_
                  refine g_ret ?_
                  refine g_qb_ret ?_
                  refine g_qt_ret ?_
                  exact g_post (rs := [.tmp 6]) rfl (.tmp rfl .nil) ⟨_, rfl, by unfold holdsF; (repeat' split) <;> first | rfl | (exfalso; omega) | simp [*], rfl⟩ .nil
                · refine g_seq ?_
                  refine g_region ?_
                  refine g_pure (p_eql rfl rfl) rfl ?_
                  refine g_pure (p_assign rfl) rfl ?_
                  refine g_nil ?_
                  refine g_qt ?_
                  refine g_ifdL rfl (fun h12 => ?_) (fun h12 => ?_)
                  · refine g_seq ?_
                    refine g_region ?_
                    refine g_pure (p_move rfl) rfl ?_
                    refine g_pure (p_move rfl) rfl ?_
                    refine g_pure (p_gtr rfl rfl) rfl ?_
                    refine g_pure (p_assign rfl) rfl ?_
                    refine g_nil ?_
                    refine g_qt ?_
                    refine g_ret ?_
                    refine g_qb_ret ?_
                    refine g_qt_ret ?_
                    exact g_post (rs := [.tmp 6]) rfl (.tmp rfl .nil) ⟨_, rfl, by unfold holdsF; (repeat' split) <;> first | rfl | (exfalso; omega) | simp [*], rfl⟩ .nil
                  · refine g_skip ?_
                    refine g_qb ?_
                    refine g_qt ?_
                    refine g_seq ?_
                    refine g_region ?_
                    refine g_pure (p_move rfl) rfl ?_
                    refine g_pure (p_move rfl) rfl ?_
                    refine g_pure (p_geq rfl rfl) rfl ?_
                    refine g_pure (p_assign rfl) rfl ?_
                    refine g_nil ?_
                    refine g_qt ?_
                    refine g_ret ?_
                    exact g_post (rs := [.tmp 6]) rfl (.tmp rfl .nil) ⟨_, rfl, by unfold holdsF; (repeat' split) <;> first | rfl | (exfalso; omega) | simp [*], rfl⟩ .nil
end Go.Proofs.Ytkebblmmgcgjkaa
