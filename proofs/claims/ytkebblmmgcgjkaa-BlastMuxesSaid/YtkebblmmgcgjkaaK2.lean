/- Chapter 38: the document's operators on bits; helpers of the statements. Conditions: none. -/
import Derived.Test.YtkebblmmgcgjkaaK1
namespace Go.Z.Bit
set_option maxRecDepth 8000
set_option linter.unusedVariables false
set_option linter.unusedSimpArgs false
set_option linter.unusedSectionVars false
open Go Go.Z Go.Z.Val Go.Z.Aig
/-- errors of operands, and the number of bits of a result -/
def formF (op : Int) (ws : List Nat) : Int × Int :=
  if op < 1 ∨ 16 < op then (0, 2) else if ws.length ≠ (if op = 1 ∨ op = 2 then 1 else 2) then (0, 9)
  else if op = 11 ∨ op = 12 then (if ws.getD 0 0 ≠ ws.getD 1 0 ∨ ws.getD 0 0 < 1 ∨ 16 < ws.getD 0 0 then (0, 16) else (1, 0))
  else if ws.getD 0 0 ≠ (if op = 1 ∨ op = 3 ∨ op = 4 ∨ op = 5 then 1 else 16) ∨ (¬ (op = 1 ∨ op = 2) ∧ ws.getD 1 0 ≠ (if op = 1 ∨ op = 3 ∨ op = 4 ∨ op = 5 then 1 else 16)) then (0, 16)
  else (if op = 2 ∨ (6 ≤ op ∧ op ≤ 10) then 16 else 1, 0)
def encN (n : Nat) : Value := .int .i64 n
end Go.Z.Bit
namespace Go.Proofs.Ytkebblmmgcgjkaa
set_option maxRecDepth 8000
set_option linter.unusedVariables false
set_option linter.unusedSimpArgs false
set_option linter.unusedSectionVars false
open Go Go.Z Go.Z.Val Go.Z.Aig Go.Z.Bit

variable {ρ : Nat → Obj → Prop}
theorem nrd {ρ : Nat → Obj → Prop} {al : Option Addr} {ws : List Nat} (h : RSl ρ 1 al ws.length (ws.map encN)) : ∃ b off cs T fz, 0 < ws.length → al = some ⟨b, off, none⟩ ∧ ρ b (.cells (cs : List Value).toArray T fz) ∧ ∀ i, i < ws.length → cs[off + i * 1]? = some (.int .i64 (ws.getD i 0 : Nat)) := by
  obtain ⟨h1, b, off, cs, T, fz, h2⟩ := h
  refine ⟨b, off, cs, T, fz, fun h0 => ⟨(h2 h0).1, (h2 h0).2.1, fun i hi => (h2 h0).2.2 _ _ ?_⟩⟩
  rw [Nat.mul_one, List.getElem?_map, List.getD_eq_getElem?_getD, List.getElem?_eq_getElem hi]; rfl

theorem form_ok {wa : Option Addr} {wc : Nat} {ws : List Nat} (op : Int) (hw : RSl ρ 1 wa ws.length (ws.map encN)) (hn : ws.length ≤ 1000000) (hws : ∀ k, ws.getD k 0 ≤ 1000000) : Con Try.prog ρ 36 #[.int .i64 op, .slice wa ws.length wc] []
    (fun v H => v = .tuple #[.int .i64 (formF op ws).1, .int .i64 (formF op ws).2] ∧ H = []) := by
  obtain ⟨b1, o1, cs1, T1, fz1, hr⟩ := nrd hw
  refine con_intro Try.func36 Try.call36 rfl Try.ntmps36 rfl (L := [(0, _), (1, _)]) rfl fun w hh => ?_
  refine g_seq ?_
  refine g_region ?_
  refine g_pure (p_assign rfl) rfl ?_
  refine g_pure (p_assign rfl) rfl ?_
  refine g_nil ?_
  refine g_qt ?_
  refine g_seq ?_
  refine g_join (fun _ : Unit => [(0, .int .i64 op), (1, .slice wa ws.length wc)]) (fun _ => []) (fun _ => ¬ (op < 1 ∨ 16 < op)) ?_ ?_
  · refine g_seq ?_
    refine g_region ?_
    refine g_pure (p_move rfl) rfl ?_
    refine g_pure (p_lss rfl rfl) rfl ?_
    refine g_pure (p_move rfl) rfl ?_
    refine g_splitd rfl rfl (fun h1 => ?_) (fun h1 => ?_)
    · refine g_no rfl rfl rfl rfl ?_
      refine g_no rfl rfl rfl rfl ?_
      first | refine g_pure (p_pickt rfl rfl) rfl ?_ | refine g_pure (p_pickf rfl rfl) rfl ?_
      refine g_nil ?_
      refine g_qt ?_
      refine g_ift rfl ?_
      refine g_seq ?_
      refine g_region ?_
      refine g_pure (p_assign rfl) rfl ?_
      refine g_pure (p_assign rfl) rfl ?_
      refine g_nil ?_
      refine g_qt ?_
      refine g_ret ?_
      refine g_qn_ret ?_
      refine g_qt_ret ?_
      refine g_post (Ho := []) (rs := [.tmp 4, .tmp 5]) rfl (.tmp rfl (.tmp rfl .nil)) ⟨?_, rfl⟩ .nil
      unfold formF
      (repeat' split) <;> first | rfl | (exfalso; omega)
    · refine g_yes rfl rfl ?_
      refine g_pure (p_move rfl) rfl ?_
      refine g_yes rfl rfl ?_
      refine g_pure (p_gtr rfl rfl) rfl ?_
      first | refine g_pure (p_pickt rfl rfl) rfl ?_ | refine g_pure (p_pickf rfl rfl) rfl ?_
      refine g_nil ?_
      refine g_qt ?_
      refine g_ifdL rfl (fun h3 => ?_) (fun h3 => ?_)
      · refine g_seq ?_
        refine g_region ?_
        refine g_pure (p_assign rfl) rfl ?_
        refine g_pure (p_assign rfl) rfl ?_
        refine g_nil ?_
        refine g_qt ?_
        refine g_ret ?_
        refine g_qn_ret ?_
        refine g_qt_ret ?_
        refine g_post (Ho := []) (rs := [.tmp 4, .tmp 5]) rfl (.tmp rfl (.tmp rfl .nil)) ⟨?_, rfl⟩ .nil
        unfold formF
        (repeat' split) <;> first | rfl | (exfalso; omega)
      · refine g_skip ?_
        refine g_qn ?_
        exact g_joined () (by (repeat (first | exact trivial | refine ⟨by rfl, ?_⟩)); done) .nil (by omega)
  rintro _ k1
  refine g_qt ?_
  refine g_seq ?_
  refine g_region ?_
  refine g_pure (p_assign rfl) rfl ?_
  refine g_nil ?_
  refine g_qt ?_
  refine g_seq ?_
  refine g_join (fun y : Nat => [(0, .int .i64 op), (1, .slice wa ws.length wc), (6, .int .i64 y)]) (fun _ => []) (fun y => y = (if op = 1 ∨ op = 2 then 1 else 2)) ?_ ?_
  · refine g_seq ?_
    refine g_region ?_
    refine g_pure (p_move rfl) rfl ?_
    refine g_pure (p_eql rfl rfl) rfl ?_
    refine g_pure (p_move rfl) rfl ?_
    refine g_splitd rfl rfl (fun h1 => ?_) (fun h1 => ?_)
    · refine g_no rfl rfl rfl rfl ?_
      refine g_no rfl rfl rfl rfl ?_
      first | refine g_pure (p_pickt rfl rfl) rfl ?_ | refine g_pure (p_pickf rfl rfl) rfl ?_
      refine g_nil ?_
      refine g_qt ?_
      refine g_ift rfl ?_
      refine g_region ?_
      refine g_pure (p_assign rfl) rfl ?_
      refine g_nil ?_
      refine g_qn ?_
      first | refine g_joined 1 ⟨rfl, rfl, rfl, trivial⟩ .nil ?_ | refine g_joined 2 ⟨rfl, rfl, rfl, trivial⟩ .nil ?_
      (repeat' split) <;> omega
    · refine g_yes rfl rfl ?_
      refine g_pure (p_move rfl) rfl ?_
      refine g_yes rfl rfl ?_
      refine g_pure (p_eql rfl rfl) rfl ?_
      first | refine g_pure (p_pickt rfl rfl) rfl ?_ | refine g_pure (p_pickf rfl rfl) rfl ?_
      refine g_nil ?_
      refine g_qt ?_
      refine g_ifdL rfl (fun h3 => ?_) (fun h3 => ?_)
      · refine g_region ?_
        refine g_pure (p_assign rfl) rfl ?_
        refine g_nil ?_
        refine g_qn ?_
        first | refine g_joined 1 ⟨rfl, rfl, rfl, trivial⟩ .nil ?_ | refine g_joined 2 ⟨rfl, rfl, rfl, trivial⟩ .nil ?_
        (repeat' split) <;> omega
      · refine g_skip ?_
        refine g_qn ?_
        first | refine g_joined 1 ⟨rfl, rfl, rfl, trivial⟩ .nil ?_ | refine g_joined 2 ⟨rfl, rfl, rfl, trivial⟩ .nil ?_
        (repeat' split) <;> omega
  rintro n k4
  refine g_qt ?_
  refine g_seq ?_
  refine g_join (fun _ : Unit => [(0, .int .i64 op), (1, .slice wa ws.length wc), (6, .int .i64 n)]) (fun _ => []) (fun _ => ws.length = n) ?_ ?_
  · refine g_seq ?_
    refine g_region ?_
    refine g_pure (p_move rfl) rfl ?_
    refine g_pure (p_len (by rfl) rfl) rfl ?_
    refine g_pure (p_move rfl) rfl ?_
    refine g_pure (p_neq rfl rfl) rfl ?_
    refine g_nil ?_
    refine g_qt ?_
    refine g_ifndL rfl (fun h1 => ?_) (fun h1 => ?_)
    · refine g_seq ?_
      refine g_region ?_
      refine g_pure (p_assign rfl) rfl ?_
      refine g_pure (p_assign rfl) rfl ?_
      refine g_nil ?_
      refine g_qt ?_
      refine g_ret ?_
      refine g_qn_ret ?_
      refine g_qt_ret ?_
      refine g_post (Ho := []) (rs := [.tmp 4, .tmp 5]) rfl (.tmp rfl (.tmp rfl .nil)) ⟨?_, rfl⟩ .nil
      rw [show formF op ws = (0, 9) by unfold formF; rw [if_neg k1, if_pos (by omega)]]
      rfl
    · refine g_skip ?_
      refine g_qn ?_
      exact g_joined () (by (repeat (first | exact trivial | refine ⟨by rfl, ?_⟩)); done) .nil (by omega)
  rintro _ k3
  refine g_qt ?_
  refine g_seq ?_
  refine g_join (fun _ : Unit => [(0, .int .i64 op), (1, .slice wa ws.length wc), (6, .int .i64 n)]) (fun _ => []) (fun _ => ¬ (op = 11 ∨ op = 12)) ?_ ?_
  · have kk : op = 11 ∨ op = 12 → formF op ws = (if ws.getD 0 0 ≠ ws.getD 1 0 ∨ ws.getD 0 0 < 1 ∨ 16 < ws.getD 0 0 then (0, 16) else (1, 0)) := fun h => by unfold formF; rw [if_neg k1, if_neg (by omega), if_pos h]
    have kn : op = 11 ∨ op = 12 → n = 2 := fun h => by rw [k4, if_neg (by omega)]
    refine g_seq ?_
    refine g_region ?_
    refine g_pure (p_move rfl) rfl ?_
    refine g_pure (p_eql rfl rfl) rfl ?_
    refine g_pure (p_move rfl) rfl ?_
    refine g_splitd rfl rfl (fun h1 => ?_) (fun h1 => ?_)
    · refine g_no rfl rfl rfl rfl ?_
      refine g_no rfl rfl rfl rfl ?_
      first | refine g_pure (p_pickt rfl rfl) rfl ?_ | refine g_pure (p_pickf rfl rfl) rfl ?_
      refine g_nil ?_
      refine g_qt ?_
      refine g_ift rfl ?_
      refine g_seq ?_
      refine g_seq ?_
      refine m_begin0 (.fl 0 0 (.fl 1 0 (.fl 2 1 (.fl 3 0 (.fl 4 0 (.fl 5 1 (.fl 6 0 (.fl 7 0 (.fl 8 0 (.fl 9 0 (.fl 10 1 (.fl 11 0 (.fl 12 0 (.fl 13 0 (.fl 14 0 (.fl 15 0 (.fl 16 1 (.fl 17 0 (.fl 18 0 .done))))))))))))))))))) (by kernel_rfl) (by kernel_rfl) ?_
      refine m_float0 rfl (fun _ _ => p_move rfl) rfl ?_
      refine m_float0 rfl (fun _ _ => p_indexAddr rfl rfl (by omega) (fun _ => (hr (by omega)).1)) rfl ?_
      refine m_float rfl (p_load (by rfl) rfl (Has.ro (hr (by omega)).2.1) ((hr (by omega)).2.2 0 (by omega))) rfl ?_
      refine m_float0 rfl (fun _ _ => p_move rfl) rfl ?_
      refine m_float0 rfl (fun _ _ => p_indexAddr rfl rfl (by omega) (fun _ => (hr (by omega)).1)) rfl ?_
      refine m_float rfl (p_load (by rfl) rfl (Has.ro (hr (by omega)).2.1) ((hr (by omega)).2.2 1 (by omega))) rfl ?_
      refine m_float0 rfl (fun _ _ => p_neq rfl rfl) rfl ?_
      refine m_float0 rfl (fun _ _ => p_move rfl) rfl ?_
      refine m_splitnd 7 rfl rfl (fun h3 => ?_) (fun h3 => ?_)
      · refine m_no0 rfl rfl rfl rfl rfl ?_
        refine m_no0 rfl rfl rfl rfl rfl ?_
        refine m_no rfl rfl rfl rfl rfl ?_
        refine m_no0 rfl rfl rfl rfl rfl ?_
        first | refine m_float0 rfl (fun _ _ => p_pickt rfl rfl) rfl ?_ | refine m_float0 rfl (fun _ _ => p_pickf rfl rfl) rfl ?_
        refine m_float0 rfl (fun _ _ => p_move rfl) rfl ?_
        refine m_no0 rfl rfl rfl rfl rfl ?_
        refine m_no0 rfl rfl rfl rfl rfl ?_
        refine m_no rfl rfl rfl rfl rfl ?_
        refine m_no0 rfl rfl rfl rfl rfl ?_
        first | refine m_float0 rfl (fun _ _ => p_pickt rfl rfl) rfl ?_ | refine m_float0 rfl (fun _ _ => p_pickf rfl rfl) rfl ?_
        refine m_nil ?_
        refine g_qt ?_
        refine g_ift rfl ?_
        refine g_seq ?_
        refine g_region ?_
        refine g_pure (p_assign rfl) rfl ?_
        refine g_pure (p_assign rfl) rfl ?_
        refine g_nil ?_
        refine g_qt ?_
        refine g_ret ?_
        refine g_qt_ret ?_
        refine g_qn_ret ?_
        refine g_qt_ret ?_
        refine g_post (Ho := []) (rs := [.tmp 4, .tmp 5]) rfl (.tmp rfl (.tmp rfl .nil)) ⟨?_, rfl⟩ .nil
        rw [kk (by omega)]
        split <;> first | rfl | (exfalso; omega)
      · refine m_yes0 rfl rfl rfl (fun _ _ => p_move rfl) rfl ?_
        refine m_yes0 rfl rfl rfl (fun _ _ => p_indexAddr rfl rfl (by omega) (fun _ => (hr (by omega)).1)) rfl ?_
        refine m_yes rfl rfl rfl (p_load (by rfl) rfl (Has.ro (hr (by omega)).2.1) ((hr (by omega)).2.2 0 (by omega))) rfl ?_
        refine m_yes0 rfl rfl rfl (fun _ _ => p_lss rfl rfl) rfl ?_
        first | refine m_float0 rfl (fun _ _ => p_pickt rfl rfl) rfl ?_ | refine m_float0 rfl (fun _ _ => p_pickf rfl rfl) rfl ?_
        refine m_float0 rfl (fun _ _ => p_move rfl) rfl ?_
        refine m_splitd 13 rfl rfl (fun h6 => ?_) (fun h6 => ?_)
        · refine m_no0 rfl rfl rfl rfl rfl ?_
          refine m_no0 rfl rfl rfl rfl rfl ?_
          refine m_no rfl rfl rfl rfl rfl ?_
          refine m_no0 rfl rfl rfl rfl rfl ?_
          first | refine m_float0 rfl (fun _ _ => p_pickt rfl rfl) rfl ?_ | refine m_float0 rfl (fun _ _ => p_pickf rfl rfl) rfl ?_
          refine m_nil ?_
          refine g_qt ?_
          refine g_ift rfl ?_
          refine g_seq ?_
          refine g_region ?_
          refine g_pure (p_assign rfl) rfl ?_
          refine g_pure (p_assign rfl) rfl ?_
          refine g_nil ?_
          refine g_qt ?_
          refine g_ret ?_
          refine g_qt_ret ?_
          refine g_qn_ret ?_
          refine g_qt_ret ?_
          refine g_post (Ho := []) (rs := [.tmp 4, .tmp 5]) rfl (.tmp rfl (.tmp rfl .nil)) ⟨?_, rfl⟩ .nil
          rw [kk (by omega)]
          split <;> first | rfl | (exfalso; omega)
        · refine m_yes0 rfl rfl rfl (fun _ _ => p_move rfl) rfl ?_
          refine m_yes0 rfl rfl rfl (fun _ _ => p_indexAddr rfl rfl (by omega) (fun _ => (hr (by omega)).1)) rfl ?_
          refine m_yes rfl rfl rfl (p_load (by rfl) rfl (Has.ro (hr (by omega)).2.1) ((hr (by omega)).2.2 0 (by omega))) rfl ?_
          refine m_yes0 rfl rfl rfl (fun _ _ => p_gtr rfl rfl) rfl ?_
          first | refine m_float0 rfl (fun _ _ => p_pickt rfl rfl) rfl ?_ | refine m_float0 rfl (fun _ _ => p_pickf rfl rfl) rfl ?_
          refine m_nil ?_
          refine g_qt ?_
          refine g_ifdL rfl (fun h8 => ?_) (fun h8 => ?_)
          · refine g_seq ?_
            refine g_region ?_
            refine g_pure (p_assign rfl) rfl ?_
            refine g_pure (p_assign rfl) rfl ?_
            refine g_nil ?_
            refine g_qt ?_
            refine g_ret ?_
            refine g_qt_ret ?_
            refine g_qn_ret ?_
            refine g_qt_ret ?_
            refine g_post (Ho := []) (rs := [.tmp 4, .tmp 5]) rfl (.tmp rfl (.tmp rfl .nil)) ⟨?_, rfl⟩ .nil
            rw [kk (by omega)]
            split <;> first | rfl | (exfalso; omega)
          · refine g_skip ?_
            refine g_qt ?_
            refine g_seq ?_
            refine g_region ?_
            refine g_pure (p_assign rfl) rfl ?_
            refine g_pure (p_assign rfl) rfl ?_
            refine g_nil ?_
            refine g_qt ?_
            refine g_ret ?_
            refine g_qn_ret ?_
            refine g_qt_ret ?_
            refine g_post (Ho := []) (rs := [.tmp 4, .tmp 5]) rfl (.tmp rfl (.tmp rfl .nil)) ⟨?_, rfl⟩ .nil
            rw [kk (by omega)]
            split <;> first | rfl | (exfalso; omega)
    · refine g_yes rfl rfl ?_
      refine g_pure (p_move rfl) rfl ?_
      refine g_yes rfl rfl ?_
      refine g_pure (p_eql rfl rfl) rfl ?_
      first | refine g_pure (p_pickt rfl rfl) rfl ?_ | refine g_pure (p_pickf rfl rfl) rfl ?_
      refine g_nil ?_
      refine g_qt ?_
      refine g_ifdL rfl (fun h9 => ?_) (fun h9 => ?_)
      · refine g_seq ?_
        refine g_seq ?_
        refine m_begin0 (.fl 0 0 (.fl 1 0 (.fl 2 1 (.fl 3 0 (.fl 4 0 (.fl 5 1 (.fl 6 0 (.fl 7 0 (.fl 8 0 (.fl 9 0 (.fl 10 1 (.fl 11 0 (.fl 12 0 (.fl 13 0 (.fl 14 0 (.fl 15 0 (.fl 16 1 (.fl 17 0 (.fl 18 0 .done))))))))))))))))))) (by kernel_rfl) (by kernel_rfl) ?_
        refine m_float0 rfl (fun _ _ => p_move rfl) rfl ?_
        refine m_float0 rfl (fun _ _ => p_indexAddr rfl rfl (by omega) (fun _ => (hr (by omega)).1)) rfl ?_
        refine m_float rfl (p_load (by rfl) rfl (Has.ro (hr (by omega)).2.1) ((hr (by omega)).2.2 0 (by omega))) rfl ?_
        refine m_float0 rfl (fun _ _ => p_move rfl) rfl ?_
        refine m_float0 rfl (fun _ _ => p_indexAddr rfl rfl (by omega) (fun _ => (hr (by omega)).1)) rfl ?_
        refine m_float rfl (p_load (by rfl) rfl (Has.ro (hr (by omega)).2.1) ((hr (by omega)).2.2 1 (by omega))) rfl ?_
        refine m_float0 rfl (fun _ _ => p_neq rfl rfl) rfl ?_
        refine m_float0 rfl (fun _ _ => p_move rfl) rfl ?_
        refine m_splitnd 7 rfl rfl (fun h10 => ?_) (fun h10 => ?_)
        · refine m_no0 rfl rfl rfl rfl rfl ?_
          refine m_no0 rfl rfl rfl rfl rfl ?_
          refine m_no rfl rfl rfl rfl rfl ?_
          refine m_no0 rfl rfl rfl rfl rfl ?_
          first | refine m_float0 rfl (fun _ _ => p_pickt rfl rfl) rfl ?_ | refine m_float0 rfl (fun _ _ => p_pickf rfl rfl) rfl ?_
          refine m_float0 rfl (fun _ _ => p_move rfl) rfl ?_
          refine m_no0 rfl rfl rfl rfl rfl ?_
          refine m_no0 rfl rfl rfl rfl rfl ?_
          refine m_no rfl rfl rfl rfl rfl ?_
          refine m_no0 rfl rfl rfl rfl rfl ?_
          first | refine m_float0 rfl (fun _ _ => p_pickt rfl rfl) rfl ?_ | refine m_float0 rfl (fun _ _ => p_pickf rfl rfl) rfl ?_
          refine m_nil ?_
          refine g_qt ?_
          refine g_ift rfl ?_
          refine g_seq ?_
          refine g_region ?_
          refine g_pure (p_assign rfl) rfl ?_
          refine g_pure (p_assign rfl) rfl ?_
          refine g_nil ?_
          refine g_qt ?_
          refine g_ret ?_
          refine g_qt_ret ?_
          refine g_qn_ret ?_
          refine g_qt_ret ?_
          refine g_post (Ho := []) (rs := [.tmp 4, .tmp 5]) rfl (.tmp rfl (.tmp rfl .nil)) ⟨?_, rfl⟩ .nil
          rw [kk (by omega)]
          split <;> first | rfl | (exfalso; omega)
        · refine m_yes0 rfl rfl rfl (fun _ _ => p_move rfl) rfl ?_
          refine m_yes0 rfl rfl rfl (fun _ _ => p_indexAddr rfl rfl (by omega) (fun _ => (hr (by omega)).1)) rfl ?_
          refine m_yes rfl rfl rfl (p_load (by rfl) rfl (Has.ro (hr (by omega)).2.1) ((hr (by omega)).2.2 0 (by omega))) rfl ?_
          refine m_yes0 rfl rfl rfl (fun _ _ => p_lss rfl rfl) rfl ?_
          first | refine m_float0 rfl (fun _ _ => p_pickt rfl rfl) rfl ?_ | refine m_float0 rfl (fun _ _ => p_pickf rfl rfl) rfl ?_
          refine m_float0 rfl (fun _ _ => p_move rfl) rfl ?_
          refine m_splitd 13 rfl rfl (fun h13 => ?_) (fun h13 => ?_)
          · refine m_no0 rfl rfl rfl rfl rfl ?_
            refine m_no0 rfl rfl rfl rfl rfl ?_
            refine m_no rfl rfl rfl rfl rfl ?_
            refine m_no0 rfl rfl rfl rfl rfl ?_
            first | refine m_float0 rfl (fun _ _ => p_pickt rfl rfl) rfl ?_ | refine m_float0 rfl (fun _ _ => p_pickf rfl rfl) rfl ?_
            refine m_nil ?_
            refine g_qt ?_
            refine g_ift rfl ?_
            refine g_seq ?_
            refine g_region ?_
            refine g_pure (p_assign rfl) rfl ?_
            refine g_pure (p_assign rfl) rfl ?_
            refine g_nil ?_
            refine g_qt ?_
            refine g_ret ?_
            refine g_qt_ret ?_
            refine g_qn_ret ?_
            refine g_qt_ret ?_
            refine g_post (Ho := []) (rs := [.tmp 4, .tmp 5]) rfl (.tmp rfl (.tmp rfl .nil)) ⟨?_, rfl⟩ .nil
            rw [kk (by omega)]
            split <;> first | rfl | (exfalso; omega)
          · refine m_yes0 rfl rfl rfl (fun _ _ => p_move rfl) rfl ?_
            refine m_yes0 rfl rfl rfl (fun _ _ => p_indexAddr rfl rfl (by omega) (fun _ => (hr (by omega)).1)) rfl ?_
            refine m_yes rfl rfl rfl (p_load (by rfl) rfl (Has.ro (hr (by omega)).2.1) ((hr (by omega)).2.2 0 (by omega))) rfl ?_
            refine m_yes0 rfl rfl rfl (fun _ _ => p_gtr rfl rfl) rfl ?_
            first | refine m_float0 rfl (fun _ _ => p_pickt rfl rfl) rfl ?_ | refine m_float0 rfl (fun _ _ => p_pickf rfl rfl) rfl ?_
            refine m_nil ?_
            refine g_qt ?_
            refine g_ifdL rfl (fun h15 => ?_) (fun h15 => ?_)
            · refine g_seq ?_
              refine g_region ?_
              refine g_pure (p_assign rfl) rfl ?_
              refine g_pure (p_assign rfl) rfl ?_
              refine g_nil ?_
              refine g_qt ?_
              refine g_ret ?_
              refine g_qt_ret ?_
              refine g_qn_ret ?_
              refine g_qt_ret ?_
              refine g_post (Ho := []) (rs := [.tmp 4, .tmp 5]) rfl (.tmp rfl (.tmp rfl .nil)) ⟨?_, rfl⟩ .nil
              rw [kk (by omega)]
              split <;> first | rfl | (exfalso; omega)
            · refine g_skip ?_
              refine g_qt ?_
              refine g_seq ?_
              refine g_region ?_
              refine g_pure (p_assign rfl) rfl ?_
              refine g_pure (p_assign rfl) rfl ?_
              refine g_nil ?_
              refine g_qt ?_
              refine g_ret ?_
              refine g_qn_ret ?_
              refine g_qt_ret ?_
              refine g_post (Ho := []) (rs := [.tmp 4, .tmp 5]) rfl (.tmp rfl (.tmp rfl .nil)) ⟨?_, rfl⟩ .nil
              rw [kk (by omega)]
              split <;> first | rfl | (exfalso; omega)
      · refine g_skip ?_
        refine g_qn ?_
        exact g_joined () (by (repeat (first | exact trivial | refine ⟨by rfl, ?_⟩)); done) .nil (by omega)
  rintro _ k2
  refine g_qt ?_
  refine g_seq ?_
  refine g_region ?_
  refine g_pure (p_assign rfl) rfl ?_
  refine g_nil ?_
  refine g_qt ?_
  refine g_seq ?_
  refine g_join (fun y : Nat => [(0, .int .i64 op), (1, .slice wa ws.length wc), (6, .int .i64 n), (7, .int .i64 y)]) (fun _ => []) (fun y => y = (if op = 1 ∨ op = 3 ∨ op = 4 ∨ op = 5 then 1 else 16)) ?_ ?_
  · refine g_seq ?_
    refine g_region ?_
    refine g_pure (p_move rfl) rfl ?_
    refine g_pure (p_eql rfl rfl) rfl ?_
    refine g_pure (p_move rfl) rfl ?_
    refine g_splitd rfl rfl (fun h1 => ?_) (fun h1 => ?_)
    · refine g_no rfl rfl rfl rfl ?_
      refine g_no rfl rfl rfl rfl ?_
      first | refine g_pure (p_pickt rfl rfl) rfl ?_ | refine g_pure (p_pickf rfl rfl) rfl ?_
      refine g_pure (p_move rfl) rfl ?_
      refine g_no rfl rfl rfl rfl ?_
      refine g_no rfl rfl rfl rfl ?_
      first | refine g_pure (p_pickt rfl rfl) rfl ?_ | refine g_pure (p_pickf rfl rfl) rfl ?_
      refine g_pure (p_move rfl) rfl ?_
      refine g_no rfl rfl rfl rfl ?_
      refine g_no rfl rfl rfl rfl ?_
      first | refine g_pure (p_pickt rfl rfl) rfl ?_ | refine g_pure (p_pickf rfl rfl) rfl ?_
      refine g_nil ?_
      refine g_qt ?_
      refine g_ift rfl ?_
      refine g_region ?_
      refine g_pure (p_assign rfl) rfl ?_
      refine g_nil ?_
      refine g_qn ?_
      first | refine g_joined 1 ⟨rfl, rfl, rfl, rfl, trivial⟩ .nil ?_ | refine g_joined 16 ⟨rfl, rfl, rfl, rfl, trivial⟩ .nil ?_
      (repeat' split) <;> omega
    · refine g_yes rfl rfl ?_
      refine g_pure (p_move rfl) rfl ?_
      refine g_yes rfl rfl ?_
      refine g_pure (p_eql rfl rfl) rfl ?_
      first | refine g_pure (p_pickt rfl rfl) rfl ?_ | refine g_pure (p_pickf rfl rfl) rfl ?_
      refine g_pure (p_move rfl) rfl ?_
      refine g_splitd rfl rfl (fun h5 => ?_) (fun h5 => ?_)
      · refine g_no rfl rfl rfl rfl ?_
        refine g_no rfl rfl rfl rfl ?_
        first | refine g_pure (p_pickt rfl rfl) rfl ?_ | refine g_pure (p_pickf rfl rfl) rfl ?_
        refine g_pure (p_move rfl) rfl ?_
        refine g_no rfl rfl rfl rfl ?_
        refine g_no rfl rfl rfl rfl ?_
        first | refine g_pure (p_pickt rfl rfl) rfl ?_ | refine g_pure (p_pickf rfl rfl) rfl ?_
        refine g_nil ?_
        refine g_qt ?_
        refine g_ift rfl ?_
        refine g_region ?_
        refine g_pure (p_assign rfl) rfl ?_
        refine g_nil ?_
        refine g_qn ?_
        first | refine g_joined 1 ⟨rfl, rfl, rfl, rfl, trivial⟩ .nil ?_ | refine g_joined 16 ⟨rfl, rfl, rfl, rfl, trivial⟩ .nil ?_
        (repeat' split) <;> omega
      · refine g_yes rfl rfl ?_
        refine g_pure (p_move rfl) rfl ?_
        refine g_yes rfl rfl ?_
        refine g_pure (p_eql rfl rfl) rfl ?_
        first | refine g_pure (p_pickt rfl rfl) rfl ?_ | refine g_pure (p_pickf rfl rfl) rfl ?_
        refine g_pure (p_move rfl) rfl ?_
        refine g_splitd rfl rfl (fun h8 => ?_) (fun h8 => ?_)
        · refine g_no rfl rfl rfl rfl ?_
          refine g_no rfl rfl rfl rfl ?_
          first | refine g_pure (p_pickt rfl rfl) rfl ?_ | refine g_pure (p_pickf rfl rfl) rfl ?_
          refine g_nil ?_
          refine g_qt ?_
          refine g_ift rfl ?_
          refine g_region ?_
          refine g_pure (p_assign rfl) rfl ?_
          refine g_nil ?_
          refine g_qn ?_
          first | refine g_joined 1 ⟨rfl, rfl, rfl, rfl, trivial⟩ .nil ?_ | refine g_joined 16 ⟨rfl, rfl, rfl, rfl, trivial⟩ .nil ?_
          (repeat' split) <;> omega
        · refine g_yes rfl rfl ?_
          refine g_pure (p_move rfl) rfl ?_
          refine g_yes rfl rfl ?_
          refine g_pure (p_eql rfl rfl) rfl ?_
          first | refine g_pure (p_pickt rfl rfl) rfl ?_ | refine g_pure (p_pickf rfl rfl) rfl ?_
          refine g_nil ?_
          refine g_qt ?_
          refine g_ifdL rfl (fun h10 => ?_) (fun h10 => ?_)
          · refine g_region ?_
            refine g_pure (p_assign rfl) rfl ?_
            refine g_nil ?_
            refine g_qn ?_
            first | refine g_joined 1 ⟨rfl, rfl, rfl, rfl, trivial⟩ .nil ?_ | refine g_joined 16 ⟨rfl, rfl, rfl, rfl, trivial⟩ .nil ?_
            (repeat' split) <;> omega
          · refine g_skip ?_
            refine g_qn ?_
            first | refine g_joined 1 ⟨rfl, rfl, rfl, rfl, trivial⟩ .nil ?_ | refine g_joined 16 ⟨rfl, rfl, rfl, rfl, trivial⟩ .nil ?_
            (repeat' split) <;> omega
  rintro W k5
  refine g_qt ?_
  have hF : formF op ws = if ws.getD 0 0 ≠ W ∨ (¬ (op = 1 ∨ op = 2) ∧ ws.getD 1 0 ≠ W) then (0, 16) else (if op = 2 ∨ (6 ≤ op ∧ op ≤ 10) then 16 else 1, 0) := by
    unfold formF
    rw [if_neg k1, if_neg (by omega), if_neg k2, ← k5]
  refine g_seq ?_
  refine g_seq ?_
  refine g_region ?_
  refine g_pure (p_assign rfl) rfl ?_
  refine g_nil ?_
  refine g_qt ?_
  refine g_block ?_
  refine g_loop (fun k : Nat => [(0, .int .i64 op), (1, .slice wa ws.length wc), (6, .int .i64 n), (7, .int .i64 W), (8, .int .i64 k)]) (fun _ => []) (fun k => k ≤ n ∧ ∀ j, j < k → ws.getD j 0 = W) (fun k => n - k) 0 ⟨Nat.zero_le _, fun j h => absurd h (Nat.not_lt_zero j)⟩ (by (repeat (first | exact trivial | refine ⟨by rfl, ?_⟩)); done) .nil ?_
  rintro k ⟨hk, hall⟩
  refine g_seq ?_
  refine g_seq ?_
  refine g_region ?_
  refine g_pure (p_move rfl) rfl ?_
  refine g_pure (p_move rfl) rfl ?_
  refine g_pure (p_lss rfl rfl) rfl ?_
  refine g_nil ?_
  refine g_qt ?_
  refine g_ifd rfl (fun q => ?_) (fun q => ?_)
  · refine g_skip ?_
    refine g_qt ?_
    refine g_seq ?_
    refine g_block ?_
    refine g_seq ?_
    refine g_region ?_
    refine g_pure (p_move rfl) rfl ?_
    refine g_pure (p_move rfl) rfl ?_
    refine g_pure (p_indexAddr rfl rfl (by omega) (fun _ => (hr (by omega)).1)) rfl ?_
    refine g_pure (p_load (by rfl) rfl (Has.ro (hr (by omega)).2.1) ((hr (by omega)).2.2 k (by omega))) rfl ?_
    refine g_pure (p_move rfl) rfl ?_
    refine g_pure (p_neq rfl rfl) rfl ?_
    refine g_nil ?_
    refine g_qt ?_
    refine g_ifnd rfl (fun q2 => ?_) (fun q2 => ?_)
    · refine g_seq ?_
      refine g_region ?_
      refine g_pure (p_assign rfl) rfl ?_
      refine g_pure (p_assign rfl) rfl ?_
      refine g_nil ?_
      refine g_qt ?_
      refine g_ret ?_
      refine g_qb_ret ?_
      refine g_qt_ret ?_
      refine g_qn_ret ?_
      refine g_qb_ret ?_
      refine g_qt_ret ?_
      refine g_post (Ho := []) (rs := [.tmp 4, .tmp 5]) rfl (.tmp rfl (.tmp rfl .nil)) ⟨?_, rfl⟩ .nil
      have hk2 : k = 0 ∨ k = 1 := by split at k4 <;> omega
      rw [hF, if_pos]
      · rfl
      · rcases hk2 with rfl | rfl
        · exact .inl (by omega)
        · exact .inr ⟨fun h => by rw [if_pos h] at k4; omega, by omega⟩
    · refine g_skip ?_
      refine g_qb ?_
      refine g_qt ?_
      refine g_region ?_
      refine g_pure (p_move rfl) rfl ?_
      first | refine g_pure (p_addi rfl rfl (by omega)) rfl ?_ | refine g_pure (p_add rfl rfl) rfl ?_
      refine g_pure (p_assign rfl) rfl ?_
      refine g_nil ?_
      refine g_qn ?_
      exact g_next (k + 1) (by (repeat (first | exact trivial | refine ⟨by rfl, ?_⟩)); done) .nil ⟨by omega, fun j hj => (if e : j = k then by subst e; omega else hall j (by omega))⟩ (by omega)
  · have hkn : k = n := by omega
    subst hkn
    have h0 : ws.getD 0 0 = W := hall 0 (by split at k4 <;> omega)
    have h1 : ¬ (op = 1 ∨ op = 2) → ws.getD 1 0 = W := fun h => hall 1 (by rw [if_neg h] at k4; omega)
    rw [if_neg (by omega)] at hF
    refine g_exit ?_
    refine g_qt_exit ?_
    refine g_qn_exit ?_
    refine g_qb_exit ?_
    refine g_qt ?_
    refine g_seq ?_
    refine g_seq ?_
    refine g_region ?_
    refine g_pure (p_move rfl) rfl ?_
    refine g_pure (p_eql rfl rfl) rfl ?_
    refine g_pure (p_move rfl) rfl ?_
    refine g_splitd rfl rfl (fun h1 => ?_) (fun h1 => ?_)
    · refine g_no rfl rfl rfl rfl ?_
      refine g_no rfl rfl rfl rfl ?_
      refine g_no rfl rfl rfl rfl ?_
      refine g_nou rfl rfl rfl ?_
      refine g_nou rfl rfl rfl ?_
      refine g_no rfl rfl rfl rfl ?_
      first | refine g_pure (p_pickt rfl rfl) rfl ?_ | refine g_pure (p_pickf rfl rfl) rfl ?_
      refine g_nil ?_
      refine g_qt ?_
      refine g_ift rfl ?_
      refine g_seq ?_
      refine g_region ?_
      refine g_pure (p_assign rfl) rfl ?_
      refine g_pure (p_assign rfl) rfl ?_
      refine g_nil ?_
      refine g_qt ?_
      refine g_ret ?_
      refine g_qt_ret ?_
      refine g_post (Ho := []) (rs := [.tmp 4, .tmp 5]) rfl (.tmp rfl (.tmp rfl .nil)) ⟨?_, rfl⟩ .nil
      rw [hF]
      dsimp only
      (split <;> first | rfl | (exfalso; omega))
    · refine g_yes rfl rfl ?_
      refine g_pure (p_move rfl) rfl ?_
      refine g_yes rfl rfl ?_
      refine g_pure (p_geq rfl rfl) rfl ?_
      refine g_yes rfl rfl ?_
      refine g_pure (p_move rfl) rfl ?_
      refine g_splitd rfl rfl (fun h4 => ?_) (fun h4 => ?_)
      · refine g_yes rfl rfl ?_
        refine g_pure (p_move rfl) rfl ?_
        refine g_yes rfl rfl ?_
        refine g_pure (p_leq rfl rfl) rfl ?_
        refine g_yes rfl rfl ?_
        first | refine g_pure (p_pickt rfl rfl) rfl ?_ | refine g_pure (p_pickf rfl rfl) rfl ?_
        first | refine g_pure (p_pickt rfl rfl) rfl ?_ | refine g_pure (p_pickf rfl rfl) rfl ?_
        refine g_nil ?_
        refine g_qt ?_
        refine g_ifdL rfl (fun h5 => ?_) (fun h5 => ?_)
        · refine g_seq ?_
          refine g_region ?_
          refine g_pure (p_assign rfl) rfl ?_
          refine g_pure (p_assign rfl) rfl ?_
          refine g_nil ?_
          refine g_qt ?_
          refine g_ret ?_
          refine g_qt_ret ?_
          refine g_post (Ho := []) (rs := [.tmp 4, .tmp 5]) rfl (.tmp rfl (.tmp rfl .nil)) ⟨?_, rfl⟩ .nil
          rw [hF]
          dsimp only
          (split <;> first | rfl | (exfalso; omega))
        · refine g_skip ?_
          refine g_qt ?_
          refine g_seq ?_
          refine g_region ?_
          refine g_pure (p_assign rfl) rfl ?_
          refine g_pure (p_assign rfl) rfl ?_
          refine g_nil ?_
          refine g_qt ?_
          refine g_ret ?_
          refine g_post (Ho := []) (rs := [.tmp 4, .tmp 5]) rfl (.tmp rfl (.tmp rfl .nil)) ⟨?_, rfl⟩ .nil
          rw [hF]
          dsimp only
          (split <;> first | rfl | (exfalso; omega))
      · refine g_no rfl rfl rfl rfl ?_
        refine g_no rfl rfl rfl rfl ?_
        refine g_yes rfl rfl ?_
        first | refine g_pure (p_pickt rfl rfl) rfl ?_ | refine g_pure (p_pickf rfl rfl) rfl ?_
        first | refine g_pure (p_pickt rfl rfl) rfl ?_ | refine g_pure (p_pickf rfl rfl) rfl ?_
        refine g_nil ?_
        refine g_qt ?_
        refine g_iff rfl ?_
        refine g_skip ?_
        refine g_qt ?_
        refine g_seq ?_
        refine g_region ?_
        refine g_pure (p_assign rfl) rfl ?_
        refine g_pure (p_assign rfl) rfl ?_
        refine g_nil ?_
        refine g_qt ?_
        refine g_ret ?_
        refine g_post (Ho := []) (rs := [.tmp 4, .tmp 5]) rfl (.tmp rfl (.tmp rfl .nil)) ⟨?_, rfl⟩ .nil
        rw [hF]
        dsimp only
        (split <;> first | rfl | (exfalso; omega))
end Go.Proofs.Ytkebblmmgcgjkaa
