/- Chapter 40: SpanFulls. Conditions: none. -/
import Derived.Test.YtlcipnligbjclabG3
namespace Go.Z
set_option linter.unusedVariables false
set_option linter.unusedSimpArgs false
set_option linter.unusedSectionVars false
open Go
variable {P : Program} {n : Nat} {L : Fr} {H : List Assn} {M : Mx}
variable {dd : Option Tmp} {ty t : TypeId} {ps : String} {af : Array Edge} {gd : Option (Nat × Bool)} {x y : Operand} {b c : Bool} {tz : TypeId} {yt : Ty}
theorem p_eqlbT [ht : TyC P t yt] (hd : yt.d = .bool) (h1 : ev L x = some (.bool b)) (h2 : ev L y = some (.bool c)) (h : b = c) : Pur P M n L H ⟨dd, .binOp .eql t x y tz, ty, ps, af, gd⟩ (.bool true) := by
  have := p_eqlb (P := P) (M := M) (n := n) (H := H) (dd := dd) (t := t) (tz := tz) (ty := ty) (ps := ps) (af := af) (gd := gd) hd h1 h2
  subst h; rwa [show (b == b) = true by simp] at this
end Go.Z
namespace Go.Z.Val
open Go Go.Z
/-- the interval of a type -/
def fullT (l : List En) (t : Int) : Sp := if t = 2 then fullS else ofS 0 (tagN l t - 1)
theorem full_has (l : List En) (t v : Int) : ((fullT l t).1 ≤ v ∧ v ≤ (fullT l t).2) ↔ tyHas l t v := by
  unfold fullT tyHas
  split
  · exact Iff.rfl
  · unfold ofS
    split <;> dsimp only <;> omega
end Go.Z.Val
namespace Go.Proofs.Ytlcipnligbjclab
open Go Go.Z Go.Z.Val

theorem fullt_ok {ρ : Nat → Obj → Prop} {a : Option Addr} {c : Nat} {l : List En} (h : EnR ρ a l) (hl : l.length ≤ maxLen) (t : Int) (ht : I64 t) : Con Try.prog ρ 6 #[.slice a l.length c, .int .i64 t] [] (SpP (fullT l t)) := by
  have hb := tagN_in (t := t) fun e he => (h.2 e he).2.2.2
  refine con_intro Try.func6 Try.call6 rfl Try.ntmps6 rfl (L := [(0, _), (1, _)]) rfl fun w hh => ?_
  refine g_seq ?_
  refine g_region ?_
  refine g_eff (e_alloc (by rfl)) rfl (fun _ _ => ?_)
  rintro ⟨b4, rfl, rfl⟩
  refine g_nil ?_
  refine g_qt ?_
  refine g_seq ?_
  refine g_seq ?_
  refine g_region ?_
  refine g_pure (p_move rfl) rfl ?_
  refine g_pure (p_eql rfl rfl) rfl ?_
  refine g_nil ?_
  refine g_qt ?_
  refine g_ifdL rfl (fun h1 => ?_) (fun h1 => ?_)
  · refine g_seq ?_
    refine g_region ?_
    refine g_call (Hin := []) (Hr := ?hr1) (R := ?rr1) rfl rfl rfl ?hin1 ?hc1 ?hk1
    case hin1 => repeat' (first | exact Cover.nil | exact Take.here | apply Cover.cons | apply Take.there)
    case hc1 => intro ρ' hρ hR; exact sfull_ok
    rintro _ _ ⟨u1, u2, rfl, hu, rfl⟩
    first | refine g_eff0 (e_storeO rfl rfl (by rfl) (by rfl) (by rfl) (by repeat' (first | exact Take.here | apply Take.there)) (by rfl)) (fun _ _ => ?_) | refine g_eff0 (e_storeN rfl rfl (by rfl) (by rfl) (by rfl) (by repeat' (first | exact Take.here | apply Take.there)) (by simp)) (fun _ _ => ?_)
    rintro rfl
    refine g_nil ?_
    refine g_qt ?_
    refine g_ret ?_
    refine g_qt_ret ?_
    exact g_post (rs := [.cell 4 26]) rfl (Res.cellN (by rfl) rfl (Has.own (by repeat' (first | exact Take.here | apply Take.there))) (by rfl) .nil) ⟨_, _, rfl, by unfold fullT; first | (rw [if_pos (by omega)]; exact hu) | (rw [if_neg (by omega)]; exact hu), rfl⟩ (by repeat' (first | exact Cover.nil | exact Take.here | apply Cover.cons | apply Take.there))
  · refine g_skip ?_
    refine g_qt ?_
    refine g_seq ?_
    refine g_region ?_
    refine g_pure (p_move rfl) rfl ?_
    refine g_pure (p_move rfl) rfl ?_
    refine g_call (Hin := []) (Hr := ?hr2) (R := ?rr2) rfl rfl rfl ?hin2 ?hc2 ?hk2
    case hin2 => repeat' (first | exact Cover.nil | exact Take.here | apply Cover.cons | apply Take.there)
    case hc2 => intro ρ' hρ hR; exact size_ok (h.mono hρ) hl t ht
    rintro _ _ ⟨rfl, rfl⟩
    first | refine g_pure (p_subi rfl rfl (by omega)) rfl ?_ | refine g_pure (p_sub rfl rfl) rfl ?_
    refine g_call (Hin := []) (Hr := ?hr3) (R := ?rr3) rfl rfl rfl ?hin3 ?hc3 ?hk3
    case hin3 => repeat' (first | exact Cover.nil | exact Take.here | apply Cover.cons | apply Take.there)
    case hc3 => intro ρ' hρ hR; exact of_ok _ _
    rintro _ _ ⟨u1, u2, rfl, hu, rfl⟩
    first | refine g_eff0 (e_storeO rfl rfl (by rfl) (by rfl) (by rfl) (by repeat' (first | exact Take.here | apply Take.there)) (by rfl)) (fun _ _ => ?_) | refine g_eff0 (e_storeN rfl rfl (by rfl) (by rfl) (by rfl) (by repeat' (first | exact Take.here | apply Take.there)) (by simp)) (fun _ _ => ?_)
    rintro rfl
    refine g_nil ?_
    refine g_qt ?_
    refine g_ret ?_
    exact g_post (rs := [.cell 4 26]) rfl (Res.cellN (by rfl) rfl (Has.own (by repeat' (first | exact Take.here | apply Take.there))) (by rfl) .nil) ⟨_, _, rfl, by unfold fullT; first | (rw [if_pos (by omega)]; exact hu) | (rw [if_neg (by omega)]; exact hu), rfl⟩ (by repeat' (first | exact Cover.nil | exact Take.here | apply Cover.cons | apply Take.there))
theorem dfullt_ok {ρ : Nat → Obj → Prop} {a : Option Addr} {c : Nat} {l : List En} (h : EnR ρ a l) (hl : l.length ≤ maxLen) (t : Int) (ht : I64 t) : Con Try.prog ρ 7 #[.slice a l.length c, .int .i64 t] [] (SpP (fullT l t)) := by
  have hb := tagN_in (t := t) fun e he => (h.2 e he).2.2.2
  refine con_intro Try.func7 Try.call7 rfl Try.ntmps7 rfl (L := [(0, _), (1, _)]) rfl fun w hh => ?_
  refine g_seq ?_
  refine g_region ?_
  refine g_eff (e_alloc (by rfl)) rfl (fun _ _ => ?_)
  rintro ⟨b4, rfl, rfl⟩
  refine g_nil ?_
  refine g_qt ?_
  refine g_seq ?_
  refine g_seq ?_
  refine g_region ?_
  refine g_pure (p_move rfl) rfl ?_
  refine g_pure (p_eql rfl rfl) rfl ?_
  refine g_nil ?_
  refine g_qt ?_
  refine g_ifdL rfl (fun h1 => ?_) (fun h1 => ?_)
  · refine g_seq ?_
    refine g_region ?_
    refine g_call (Hin := []) (Hr := ?hr4) (R := ?rr4) rfl rfl rfl ?hin4 ?hc4 ?hk4
    case hin4 => repeat' (first | exact Cover.nil | exact Take.here | apply Cover.cons | apply Take.there)
    case hc4 => intro ρ' hρ hR; exact dof_ok _ _
    rintro _ _ ⟨u1, u2, rfl, hu, rfl⟩
    first | refine g_eff0 (e_storeO rfl rfl (by rfl) (by rfl) (by rfl) (by repeat' (first | exact Take.here | apply Take.there)) (by rfl)) (fun _ _ => ?_) | refine g_eff0 (e_storeN rfl rfl (by rfl) (by rfl) (by rfl) (by repeat' (first | exact Take.here | apply Take.there)) (by simp)) (fun _ _ => ?_)
    rintro rfl
    refine g_nil ?_
    refine g_qt ?_
    refine g_ret ?_
    refine g_qt_ret ?_
    exact g_post (rs := [.cell 4 26]) rfl (Res.cellN (by rfl) rfl (Has.own (by repeat' (first | exact Take.here | apply Take.there))) (by rfl) .nil) ⟨_, _, rfl, by unfold fullT; first | (rw [if_pos (by omega)]; exact hu) | (rw [if_neg (by omega)]; exact hu), rfl⟩ (by repeat' (first | exact Cover.nil | exact Take.here | apply Cover.cons | apply Take.there))
  · refine g_skip ?_
    refine g_qt ?_
    refine g_seq ?_
    refine g_region ?_
    refine g_pure (p_move rfl) rfl ?_
    refine g_pure (p_move rfl) rfl ?_
    refine g_call (Hin := []) (Hr := ?hr5) (R := ?rr5) rfl rfl rfl ?hin5 ?hc5 ?hk5
    case hin5 => repeat' (first | exact Cover.nil | exact Take.here | apply Cover.cons | apply Take.there)
    case hc5 => intro ρ' hρ hR; exact dsize_ok (h.mono hρ) hl t ht
    rintro _ _ ⟨rfl, rfl⟩
    first | refine g_pure (p_subi rfl rfl (by omega)) rfl ?_ | refine g_pure (p_sub rfl rfl) rfl ?_
    refine g_call (Hin := []) (Hr := ?hr6) (R := ?rr6) rfl rfl rfl ?hin6 ?hc6 ?hk6
    case hin6 => repeat' (first | exact Cover.nil | exact Take.here | apply Cover.cons | apply Take.there)
    case hc6 => intro ρ' hρ hR; exact dof_ok _ _
    rintro _ _ ⟨u1, u2, rfl, hu, rfl⟩
    first | refine g_eff0 (e_storeO rfl rfl (by rfl) (by rfl) (by rfl) (by repeat' (first | exact Take.here | apply Take.there)) (by rfl)) (fun _ _ => ?_) | refine g_eff0 (e_storeN rfl rfl (by rfl) (by rfl) (by rfl) (by repeat' (first | exact Take.here | apply Take.there)) (by simp)) (fun _ _ => ?_)
    rintro rfl
    refine g_nil ?_
    refine g_qt ?_
    refine g_ret ?_
    exact g_post (rs := [.cell 4 26]) rfl (Res.cellN (by rfl) rfl (Has.own (by repeat' (first | exact Take.here | apply Take.there))) (by rfl) .nil) ⟨_, _, rfl, by unfold fullT; first | (rw [if_pos (by omega)]; exact hu) | (rw [if_neg (by omega)]; exact hu), rfl⟩ (by repeat' (first | exact Cover.nil | exact Take.here | apply Cover.cons | apply Take.there))

theorem huge_ok {ρ : Nat → Obj → Prop} {a : Option Addr} {c : Nat} {l : List En} (h : EnR ρ a l) (hl : l.length ≤ maxLen) : Con Try.prog ρ 4 #[.slice a l.length c] [] (fun v H => ∃ b, v = .bool b ∧ H = []) := by
  obtain ⟨⟨_, bl, ol, kl, Tl, fl, hk⟩, he⟩ := h
  have eM : maxLen = 9223372036854775807 := rfl
  refine con_intro Try.func4 Try.call4 rfl Try.ntmps4 rfl (L := [(0, _)]) rfl fun w hh => ?_
  refine g_seq ?_
  refine g_region ?_
  refine g_pure (p_assign rfl) rfl ?_
  refine g_nil ?_
  refine g_qt ?_
  refine g_seq ?_
  refine g_region ?_
  refine g_pure (p_move rfl) rfl ?_
  refine g_pure (p_len (by rfl) rfl) rfl ?_
  refine g_pure (p_assign rfl) rfl ?_
  refine g_nil ?_
  refine g_qt ?_
  refine g_seq ?_
  refine g_seq ?_
  refine g_region ?_
  refine g_pure (p_assign rfl) rfl ?_
  refine g_nil ?_
  refine g_qt ?_
  refine g_block ?_
  refine g_loop (fun q : Int × Nat => [(0, .slice a l.length c), (3, .int .i64 q.1), (4, .int .i64 q.2)]) (fun _ => []) (fun q => q.2 ≤ l.length) (fun q => l.length - q.2) (_, 0) (Nat.zero_le _) (by (repeat (first | exact trivial | refine ⟨by rfl, ?_⟩)); done) .nil ?_
  rintro ⟨s, i⟩ hi
  dsimp only at hi ⊢
  refine g_seq ?_
  refine g_seq ?_
  refine g_region ?_
  refine g_pure (p_move rfl) rfl ?_
  refine g_pure (p_move rfl) rfl ?_
  refine g_pure (p_len (by rfl) rfl) rfl ?_
  refine g_pure (p_lss rfl rfl) rfl ?_
  refine g_pure (p_move rfl) rfl ?_
  refine g_splitd rfl rfl (fun h1 => ?_) (fun h1 => ?_)
  · refine g_yes rfl rfl ?_
    refine g_pure (p_move rfl) rfl ?_
    refine g_yes rfl rfl ?_
    refine g_pure (p_lss rfl rfl) rfl ?_
    first | refine g_pure (p_pickt rfl rfl) rfl ?_ | refine g_pure (p_pickf rfl rfl) rfl ?_
    refine g_nil ?_
    refine g_qt ?_
    refine g_ifd rfl (fun h2 => ?_) (fun h2 => ?_)
    · have hin : i < l.length := by omega
      obtain ⟨l1, l2, l3⟩ := hk (by omega)
      obtain ⟨_, _, x0⟩ := en_at l3 hin
      refine g_skip ?_
      refine g_qt ?_
      refine g_seq ?_
      refine g_block ?_
      refine g_region ?_
      refine g_pure (p_move rfl) rfl ?_
      refine g_pure (p_move rfl) rfl ?_
      refine g_pure (p_move rfl) rfl ?_
      refine g_pure (p_indexAddr rfl rfl (by omega) (fun _ => l1)) rfl ?_
      refine g_pure (p_fieldAddr rfl) rfl ?_
      refine g_pure (p_load (by rfl) rfl (Has.ro l2) x0) rfl ?_
      refine g_pure (p_len (by rfl) rfl) rfl ?_
      refine g_pure (p_add rfl rfl) rfl ?_
      refine g_pure (p_assign rfl) rfl ?_
      refine g_nil ?_
      refine g_qb ?_
      refine g_qt ?_
      refine g_region ?_
      refine g_pure (p_move rfl) rfl ?_
      first | refine g_pure (p_addi rfl rfl (by omega)) rfl ?_ | refine g_pure (p_add rfl rfl) rfl ?_
      refine g_pure (p_assign rfl) rfl ?_
      refine g_nil ?_
      refine g_qn ?_
      exact g_next (_, i + 1) (by (repeat (first | exact trivial | refine ⟨by rfl, ?_⟩)); done) .nil (by dsimp only; omega) (by dsimp only; omega)
    · refine g_exit ?_
      refine g_qt_exit ?_
      refine g_qn_exit ?_
      refine g_qb_exit ?_
      refine g_qt ?_
      refine g_seq ?_
      refine g_region ?_
      refine g_pure (p_move rfl) rfl ?_
      refine g_pure (p_geq rfl rfl) rfl ?_
      refine g_pure (p_assign rfl) rfl ?_
      refine g_nil ?_
      refine g_qt ?_
      refine g_ret ?_
      exact g_post (Ho := []) (rs := [.tmp 2]) rfl (.tmp rfl .nil) ⟨_, rfl, rfl⟩ (by repeat' (first | exact Cover.nil | exact Take.here | apply Cover.cons | apply Take.there))
  · refine g_no rfl rfl rfl rfl ?_
    refine g_no rfl rfl rfl rfl ?_
    first | refine g_pure (p_pickt rfl rfl) rfl ?_ | refine g_pure (p_pickf rfl rfl) rfl ?_
    refine g_nil ?_
    refine g_qt ?_
    refine g_iff rfl ?_
    refine g_exit ?_
    refine g_qt_exit ?_
    refine g_qn_exit ?_
    refine g_qb_exit ?_
    refine g_qt ?_
    refine g_seq ?_
    refine g_region ?_
    refine g_pure (p_move rfl) rfl ?_
    refine g_pure (p_geq rfl rfl) rfl ?_
    refine g_pure (p_assign rfl) rfl ?_
    refine g_nil ?_
    refine g_qt ?_
    refine g_ret ?_
    exact g_post (Ho := []) (rs := [.tmp 2]) rfl (.tmp rfl .nil) ⟨_, rfl, rfl⟩ (by repeat' (first | exact Cover.nil | exact Take.here | apply Cover.cons | apply Take.there))

theorem fulls_ok {ρ : Nat → Obj → Prop} {a : Option Addr} {c : Nat} {l : List En} (h : EnR ρ a l) (hl : l.length ≤ maxLen) (t v : Int) (ht : I64 t) : Con Try.prog ρ 3 #[.slice a l.length c, .int .i64 t, .int .i64 v] [] (fun v _ => v = .bool true) := by
  refine con_intro Try.func3 Try.call3 rfl Try.ntmps3 rfl (L := [(0, _), (1, _), (2, _)]) rfl fun w hh => ?_
  refine g_seq ?_
  refine g_region ?_
  refine g_pure (p_assign rfl) rfl ?_
  refine g_nil ?_
  refine g_qt ?_
  refine g_seq ?_
  refine g_seq ?_
  refine g_region ?_
  refine g_pure (p_move rfl) rfl ?_
  refine g_call (Hin := []) (Hr := ?hr7) (R := ?rr7) rfl rfl rfl ?hin7 ?hc7 ?hk7
  case hin7 => repeat' (first | exact Cover.nil | exact Take.here | apply Cover.cons | apply Take.there)
  case hc7 => intro ρ' hρ hR; exact huge_ok (h.mono hρ) hl
  rintro _ _ ⟨b, rfl, rfl⟩
  refine g_nil ?_
  refine g_qt ?_
  refine g_if rfl (fun q => ?_) (fun q => ?_)
  · refine g_seq ?_
    refine g_region ?_
    refine g_call (Hin := []) (Hr := ?hr8) (R := ?rr8) rfl rfl rfl ?hin8 ?hc8 ?hk8
    case hin8 => repeat' (first | exact Cover.nil | exact Take.here | apply Cover.cons | apply Take.there)
    case hc8 => intro ρ' hρ hR; exact awake_ok
    rintro _ _ ⟨rfl, rfl⟩
    refine g_pure (p_assign rfl) rfl ?_
    refine g_nil ?_
    refine g_qt ?_
    refine g_ret ?_
    refine g_qt_ret ?_
    exact g_post (Ho := []) (rs := [.tmp 6]) rfl (.tmp rfl .nil) rfl .nil
  · refine g_skip ?_
    refine g_qt ?_
    refine g_seq ?_
    refine g_region ?_
    refine g_pure (p_move rfl) rfl ?_
    refine g_pure (p_move rfl) rfl ?_
    refine g_call (Hin := []) (Hr := ?hr9) (R := ?rr9) rfl rfl rfl ?hin9 ?hc9 ?hk9
    case hin9 => repeat' (first | exact Cover.nil | exact Take.here | apply Cover.cons | apply Take.there)
    case hc9 => intro ρ' hρ hR; exact sp_q (fullt_ok (h.mono hρ) hl t ht)
    rintro _ _ ⟨rfl, rfl⟩
    refine g_eff (e_alloc (by rfl)) rfl (fun _ _ => ?_)
    rintro ⟨b7, rfl, rfl⟩
    first | refine g_eff0 (e_storeO rfl rfl (by rfl) (by rfl) (by rfl) (by repeat' (first | exact Take.here | apply Take.there)) (by rfl)) (fun _ _ => ?_) | refine g_eff0 (e_storeN rfl rfl (by rfl) (by rfl) (by rfl) (by repeat' (first | exact Take.here | apply Take.there)) (by simp)) (fun _ _ => ?_)
    rintro rfl
    refine g_nil ?_
    refine g_qt ?_
    refine g_seq ?_
    refine m_begin0 (.fl 0 1 (.fl 1 0 (.fl 2 0 (.ef 3 (.fl 4 0 (.fl 5 0 (.fl 6 1 (.fl 7 0 (.fl 9 0 (.fl 10 0 (.fl 11 0 (.ef 8 (.ef 12 (.fl 13 0 (.fl 14 0 (.fl 15 0 (.ef 16 (.fl 17 0 (.fl 18 0 .done))))))))))))))))))) (by kernel_rfl) (by kernel_rfl) ?_
    first | refine m_float rfl (p_loadO (by rfl) rfl (by first | (apply Has.own; (repeat' (first | exact Take.here | apply Take.there)); done) | exact Has.ro (by assumption)) (by rfl)) rfl ?_ | refine m_float rfl (p_loadN (by rfl) rfl (by first | (apply Has.own; (repeat' (first | exact Take.here | apply Take.there)); done) | exact Has.ro (by assumption)) (by first | rfl | assumption)) rfl ?_
    refine m_float0 rfl (fun _ _ => p_move rfl) rfl ?_
    refine m_float0 rfl (fun _ _ => p_move rfl) rfl ?_
    refine m_call (Hin := []) (Hr := ?hr10) (R := ?rr10) rfl wantedN rfl rfl rfl ?hin10 ?hc10 ?hk10
    case hin10 => repeat' (first | exact Cover.nil | exact Take.here | apply Cover.cons | apply Take.there)
    case hc10 => intro ρ' hρ hR; exact sp_q (dfullt_ok (h.mono hρ) hl t ht)
    rintro _ _ ⟨rfl, rfl⟩
    refine ⟨.some (by repeat' (first | exact Cover.nil | exact Take.here | apply Cover.cons | apply Take.there)), ?_⟩
    refine m_float0 rfl (fun _ _ => p_eqagg (eqSpanT 9998 _ _) (by kernel_rfl) rfl rfl) rfl ?_
    refine m_float0 rfl (fun _ _ => p_move rfl) rfl ?_
    first | refine m_yes rfl rfl rfl (p_loadO (by rfl) rfl (by first | (apply Has.own; (repeat' (first | exact Take.here | apply Take.there)); done) | exact Has.ro (by assumption)) (by rfl)) rfl ?_ | refine m_yes rfl rfl rfl (p_loadN (by rfl) rfl (by first | (apply Has.own; (repeat' (first | exact Take.here | apply Take.there)); done) | exact Has.ro (by assumption)) (by first | rfl | assumption)) rfl ?_
    refine m_yes0 rfl rfl rfl (fun _ _ => p_move rfl) rfl ?_
    refine m_yes0 rfl rfl rfl (fun _ _ => p_move rfl) rfl ?_
    refine m_yes0 rfl rfl rfl (fun _ _ => p_move rfl) rfl ?_
    refine m_yes0 rfl rfl rfl (fun _ _ => p_move rfl) rfl ?_
    refine m_call (Hin := []) (Hr := ?hr11) (R := ?rr11) rfl (wantedY rfl rfl) rfl rfl rfl ?hin11 ?hc11 ?hk11
    case hin11 => repeat' (first | exact Cover.nil | exact Take.here | apply Cover.cons | apply Take.there)
    case hc11 => intro ρ' hρ hR; exact has_ok _ _ _
    rintro _ _ ⟨rfl, rfl⟩
    refine ⟨.none (by kernel_rfl), ?_⟩
    refine m_call (Hin := []) (Hr := ?hr12) (R := ?rr12) rfl (wantedY rfl rfl) rfl rfl rfl ?hin12 ?hc12 ?hk12
    case hin12 => repeat' (first | exact Cover.nil | exact Take.here | apply Cover.cons | apply Take.there)
    case hc12 => intro ρ' hρ hR; exact vhas_ok (h.mono hρ) hl t v ht
    rintro _ _ ⟨rfl, rfl⟩
    refine ⟨.none (by kernel_rfl), ?_⟩
    refine m_yes0 rfl rfl rfl (fun _ _ => p_eqlbT (by rfl) rfl rfl (decide_eq_decide.2 (full_has l t v))) rfl ?_
    first | refine m_float0 rfl (fun _ _ => p_pickt rfl rfl) rfl ?_ | refine m_float0 rfl (fun _ _ => p_pickf rfl rfl) rfl ?_
    refine m_float0 rfl (fun _ _ => p_move rfl) rfl ?_
    refine m_call (Hin := []) (Hr := ?hr13) (R := ?rr13) rfl (wantedY rfl rfl) rfl rfl rfl ?hin13 ?hc13 ?hk13
    case hin13 => repeat' (first | exact Cover.nil | exact Take.here | apply Cover.cons | apply Take.there)
    case hc13 => intro ρ' hρ hR; exact awake_ok
    rintro _ _ ⟨rfl, rfl⟩
    refine ⟨.none (by kernel_rfl), ?_⟩
    first | refine m_float0 rfl (fun _ _ => p_pickt rfl rfl) rfl ?_ | refine m_float0 rfl (fun _ _ => p_pickf rfl rfl) rfl ?_
    refine m_float0 rfl (fun _ _ => p_assign rfl) rfl ?_
    refine m_nil ?_
    refine g_qt ?_
    refine g_ret ?_
    exact g_post (Ho := []) (rs := [.tmp 6]) rfl (.tmp rfl .nil) rfl .nil
end Go.Proofs.Ytlcipnligbjclab
