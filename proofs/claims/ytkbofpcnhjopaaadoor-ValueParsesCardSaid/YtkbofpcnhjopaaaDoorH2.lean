/- Chapter 05: types of results; reading a text. Conditions: none. -/
import Derived.Test.YtkbofpcnhjopaaaDoorH1
namespace Go.Z.Val
set_option maxRecDepth 8000
set_option linter.unusedVariables false
set_option linter.unusedSimpArgs false
set_option linter.unusedSectionVars false
open Go Go.Z
/-- does a type fit as an operand of a group? (t0: the first type) -/
def fitB (k t0 t : Int) : Bool := if k = 1 then decide (t = 1) else if k = 3 then decide (t = t0) && decide (1 ≤ t) else decide (t = 2)
def resultF (op : Int) (ts : List Int) : Int × Int :=
  if (groupF op).1 = 0 then (0, 2) else if ts.length ≠ (groupF op).2 then (0, 9) else if ts.all (fitB (groupF op).1 (ts.getD 0 0)) then (if (groupF op).1 = 2 then 2 else 1, 0) else (0, 10)
end Go.Z.Val
namespace Go.Proofs.YtkbofpcnhjopaaaDoor
set_option maxRecDepth 8000
set_option linter.unusedVariables false
set_option linter.unusedSimpArgs false
set_option linter.unusedSectionVars false
open Go Go.Z Go.Z.Val

theorem result_ok {ρ : Nat → Obj → Prop} (op : Int) {aa : Option Addr} {ac : Nat} {ts : List Int} (ha : RSl ρ 1 aa ts.length (ts.map encI)) (hlen : ts.length ≤ 9223372036854775806) :
    Con Tryd.prog ρ 18 #[.int .i64 op, .slice aa ts.length ac] [] (fun v H => v = .tuple #[.int .i64 (resultF op ts).1, .int .i64 (resultF op ts).2] ∧ H = []) := by
  obtain ⟨_, bl, ol, kl, Tl, fl, hl⟩ := ha
  refine con_intro Tryd.func18 Tryd.call18 rfl Tryd.ntmps18 rfl (L := [(0, _), (1, _)]) rfl fun w hh => ?_
  refine g_seq ?_
  refine g_region ?_
  refine g_pure (p_assign rfl) rfl ?_
  refine g_pure (p_assign rfl) rfl ?_
  refine g_nil ?_
  refine g_qt ?_
  refine g_seq ?_
  refine g_region ?_
  refine g_pure (p_move rfl) rfl ?_
  refine g_call (Hin := []) (Hr := ?hr1) (R := ?rr1) rfl rfl rfl ?hin1 ?hc1 ?hk1
  case hin1 => repeat' (first | exact Cover.nil | exact Take.here | apply Cover.cons | apply Take.there)
  case hc1 => intro ρ' hρ hR; exact group_ok op
  rintro _ _ ⟨k, nn, rfl, hg, hn0, rfl⟩
  refine g_pure (p_move rfl) rfl ?_
  refine g_pure (p_extract rfl rfl) rfl ?_
  refine g_pure (p_extract rfl rfl) rfl ?_
  refine g_pure (p_assign rfl) rfl ?_
  refine g_pure (p_assign rfl) rfl ?_
  refine g_nil ?_
  refine g_qt ?_
  refine g_seq ?_
  refine g_block ?_
  refine g_seq ?_
  refine g_region ?_
  refine g_pure (p_move rfl) rfl ?_
  refine g_pure (p_eql rfl rfl) rfl ?_
  refine g_pure (p_assign rfl) rfl ?_
  refine g_nil ?_
  refine g_qt ?_
  have hgk := groupF_k hg
  have hG1 : (groupF op).1 = k := by rw [hg]
  have hG2 : (groupF op).2 = nn.toNat := by rw [hg]
  refine g_ifd rfl (fun h1 => ?_) (fun h1 => ?_)
  · refine g_seq ?_
    refine g_region ?_
    refine g_pure (p_assign rfl) rfl ?_
    refine g_pure (p_assign rfl) rfl ?_
    refine g_nil ?_
    refine g_qt ?_
    refine g_ret ?_
    refine g_qb_ret ?_
    refine g_qt_ret ?_
    exact g_post (Ho := []) (rs := [.tmp 4, .tmp 5]) rfl (.tmp rfl (.tmp rfl .nil)) ⟨by unfold resultF; rw [hG1, if_pos h1]; rfl, rfl⟩ (by repeat' (first | exact Cover.nil | exact Take.here | apply Cover.cons | apply Take.there))
  · refine g_seq ?_
    refine g_region ?_
    refine g_pure (p_move rfl) rfl ?_
    refine g_pure (p_len (by rfl) rfl) rfl ?_
    refine g_pure (p_move rfl) rfl ?_
    refine g_pure (p_neq rfl rfl) rfl ?_
    refine g_pure (p_assign rfl) rfl ?_
    refine g_nil ?_
    refine g_qt ?_
    refine g_ifnd rfl (fun h2 => ?_) (fun h2 => ?_)
    · refine g_seq ?_
      refine g_region ?_
      refine g_pure (p_assign rfl) rfl ?_
      refine g_pure (p_assign rfl) rfl ?_
      refine g_nil ?_
      refine g_qt ?_
      refine g_ret ?_
      refine g_qb_ret ?_
      refine g_qt_ret ?_
      exact g_post (Ho := []) (rs := [.tmp 4, .tmp 5]) rfl (.tmp rfl (.tmp rfl .nil)) ⟨by unfold resultF; rw [hG1, hG2, if_neg h1, if_pos (by omega)]; rfl, rfl⟩ (by repeat' (first | exact Cover.nil | exact Take.here | apply Cover.cons | apply Take.there))
    · have hlen2 : ts.length = nn.toNat := by omega
      have hbad : ts.all (fitB k (ts.getD 0 0)) = false → resultF op ts = (0, 10) := fun h => by unfold resultF; rw [hG1, hG2, if_neg h1, if_neg (by omega), h]; rfl
      have hgood : ts.all (fitB k (ts.getD 0 0)) = true → resultF op ts = (if k = 2 then 2 else 1, 0) := fun h => by unfold resultF; rw [hG1, hG2, if_neg h1, if_neg (by omega), if_pos h]
      refine g_skip ?_
      refine g_qb ?_
      refine g_qt ?_
      refine g_seq ?_
      refine g_seq ?_
      refine g_region ?_
      refine g_pure (p_move rfl) rfl ?_
      refine g_pure (p_len (by rfl) rfl) rfl ?_
      refine g_pure (p_move rfl) rfl ?_
      refine g_nil ?_
      refine g_qt ?_
      refine g_block ?_
      refine g_loop (fun i : Nat => [(1, .slice aa ts.length ac), (6, .int .i64 k), (23, .slice aa ts.length ac), (24, .int .i64 ts.length), (25, .int .i64 i)]) (fun _ => []) (fun i => i ≤ ts.length ∧ (ts.take i).all (fitB k (ts.getD 0 0)) = true) (fun i => ts.length - i) 0 ⟨Nat.zero_le _, rfl⟩ (by (repeat (first | exact trivial | refine ⟨by rfl, ?_⟩)); done) .nil fun i ⟨hi, hall⟩ => ?_
      refine g_seq ?_
      refine g_region ?_
      refine g_pure (p_lss rfl rfl) rfl ?_
      refine g_nil ?_
      refine g_qt ?_
      refine g_seq ?_
      refine g_ifd rfl (fun h3 => ?_) (fun h3 => ?_)
      · have hk' : i < ts.length := by omega
        obtain ⟨l1, l2, l3⟩ := hl (by omega)
        have x0 : kl[ol + (i : Int).toNat * 1]? = some (.int .i64 ts[i]) := by rw [Nat.mul_one]; exact l3 _ _ (mapI ts hk')
        have z0 : kl[ol + (0 : Int).toNat * 1]? = some (.int .i64 (ts.getD 0 0)) := by
          rw [Nat.mul_one]
          refine l3 _ _ ?_
          rw [List.getElem?_map, List.getD_eq_getElem?_getD, List.getElem?_eq_getElem (show (0 : Int).toNat < ts.length by show 0 < ts.length; omega), List.getElem?_eq_getElem (by omega)]; rfl
        have hno : fitB k (ts.getD 0 0) ts[i] = false → resultF op ts = (0, 10) := fun h => hbad (all_no hk' h)
        have hyes : fitB k (ts.getD 0 0) ts[i] = true → (ts.take (i + 1)).all (fitB k (ts.getD 0 0)) = true := fun h => take_all _ _ _ hk' hall h
        generalize ts[i] = t at *
        generalize ts.getD 0 0 = t0 at *
        refine g_skip ?_
        refine g_qt ?_
        refine g_seq ?_
        refine g_block ?_
        refine g_seq ?_
        refine g_region ?_
        refine g_pure (p_indexAddr rfl rfl (by omega) (fun _ => l1)) rfl ?_
        refine g_pure (p_load (by rfl) rfl (Has.ro l2) x0) rfl ?_
        refine g_pure (p_assign rfl) rfl ?_
        refine g_nil ?_
        refine g_qt ?_
        refine g_seq ?_
        refine g_region ?_
        refine g_pure (p_move rfl) rfl ?_
        refine g_nil ?_
        refine g_qt ?_
        refine g_block ?_
        refine g_seq ?_
        refine g_region ?_
        refine g_pure (p_eql rfl rfl) rfl ?_
        refine g_pure (p_assign rfl) rfl ?_
        refine g_nil ?_
        refine g_qt ?_
        refine g_ifdL rfl (fun h1 => ?_) (fun h1 => ?_)
        · refine g_seq ?_
          refine g_region ?_
          refine g_pure (p_move rfl) rfl ?_
          refine g_pure (p_neq rfl rfl) rfl ?_
          refine g_nil ?_
          refine g_qt ?_
          refine g_ifndL rfl (fun h2 => ?_) (fun h2 => ?_)
          · refine g_seq ?_
            refine g_region ?_
            refine g_pure (p_assign rfl) rfl ?_
            refine g_pure (p_assign rfl) rfl ?_
            refine g_nil ?_
            refine g_qt ?_
            refine g_ret ?_
            refine g_qb_ret ?_
            refine g_qb_ret ?_
            refine g_qt_ret ?_
            refine g_qn_ret ?_
            refine g_qb_ret ?_
            refine g_qt_ret ?_
            exact g_post (Ho := []) (rs := [.tmp 4, .tmp 5]) rfl (.tmp rfl (.tmp rfl .nil)) ⟨by rw [hno (by unfold fitB; first | (rw [if_pos (by assumption)]; exact decide_eq_false (by assumption)) | (rw [if_neg (by assumption), if_pos (by assumption), Bool.and_eq_false_iff]; first | exact .inl (decide_eq_false (by assumption)) | exact .inr (decide_eq_false (by omega))) | (rw [if_neg (by assumption), if_neg (by assumption)]; exact decide_eq_false (by assumption)))]; rfl, rfl⟩ (by repeat' (first | exact Cover.nil | exact Take.here | apply Cover.cons | apply Take.there))
          · refine g_skip ?_
            refine g_qb ?_
            refine g_qb ?_
            refine g_qt ?_
            refine g_region ?_
            first | refine g_pure (p_addi rfl rfl (by omega)) rfl ?_ | refine g_pure (p_add rfl rfl) rfl ?_
            refine g_pure (p_move rfl) rfl ?_
            refine g_nil ?_
            refine g_qn ?_
            exact g_next (i + 1) ⟨by rfl, by rfl, by rfl, by rfl, by rfl, trivial⟩ .nil ⟨by omega, hyes (by unfold fitB; first | (rw [if_pos (by assumption)]; exact decide_eq_true (by assumption)) | (rw [if_neg (by assumption), if_pos (by assumption), Bool.and_eq_true]; exact ⟨decide_eq_true (by assumption), decide_eq_true (by omega)⟩) | (rw [if_neg (by assumption), if_neg (by assumption)]; exact decide_eq_true (by assumption)))⟩ (by omega)
        · refine g_seq ?_
          refine g_region ?_
          refine g_pure (p_eql rfl rfl) rfl ?_
          refine g_pure (p_assign rfl) rfl ?_
          refine g_nil ?_
          refine g_qt ?_
          refine g_ifdL rfl (fun h3 => ?_) (fun h3 => ?_)
          · refine g_seq ?_
            refine g_region ?_
            refine g_pure (p_move rfl) rfl ?_
            refine g_pure (p_move rfl) rfl ?_
            refine g_pure (p_indexAddr rfl rfl (by omega) (fun _ => l1)) rfl ?_
            refine g_pure (p_load (by rfl) rfl (Has.ro l2) z0) rfl ?_
            refine g_pure (p_neq rfl rfl) rfl ?_
            refine g_pure (p_move rfl) rfl ?_
            refine g_splitnd rfl rfl (fun h4 => ?_) (fun h4 => ?_)
            · refine g_no rfl rfl rfl rfl ?_
              refine g_no rfl rfl rfl rfl ?_
              first | refine g_pure (p_pickt rfl rfl) rfl ?_ | refine g_pure (p_pickf rfl rfl) rfl ?_
              refine g_nil ?_
              refine g_qt ?_
              refine g_ift rfl ?_
              refine g_seq ?_
              refine g_region ?_
              refine g_pure (p_assign rfl) rfl ?_
              refine g_pure (p_assign rfl) rfl ?_
              refine g_nil ?_
              refine g_qt ?_
              refine g_ret ?_
              refine g_qb_ret ?_
              refine g_qb_ret ?_
              refine g_qt_ret ?_
              refine g_qn_ret ?_
              refine g_qb_ret ?_
              refine g_qt_ret ?_
              exact g_post (Ho := []) (rs := [.tmp 4, .tmp 5]) rfl (.tmp rfl (.tmp rfl .nil)) ⟨by rw [hno (by unfold fitB; first | (rw [if_pos (by assumption)]; exact decide_eq_false (by assumption)) | (rw [if_neg (by assumption), if_pos (by assumption), Bool.and_eq_false_iff]; first | exact .inl (decide_eq_false (by assumption)) | exact .inr (decide_eq_false (by omega))) | (rw [if_neg (by assumption), if_neg (by assumption)]; exact decide_eq_false (by assumption)))]; rfl, rfl⟩ (by repeat' (first | exact Cover.nil | exact Take.here | apply Cover.cons | apply Take.there))
            · refine g_yes rfl rfl ?_
              refine g_pure (p_move rfl) rfl ?_
              refine g_yes rfl rfl ?_
              refine g_pure (p_lss rfl rfl) rfl ?_
              first | refine g_pure (p_pickt rfl rfl) rfl ?_ | refine g_pure (p_pickf rfl rfl) rfl ?_
              refine g_nil ?_
              refine g_qt ?_
              refine g_ifdL rfl (fun h6 => ?_) (fun h6 => ?_)
              · refine g_seq ?_
                refine g_region ?_
                refine g_pure (p_assign rfl) rfl ?_
                refine g_pure (p_assign rfl) rfl ?_
                refine g_nil ?_
                refine g_qt ?_
                refine g_ret ?_
                refine g_qb_ret ?_
                refine g_qb_ret ?_
                refine g_qt_ret ?_
                refine g_qn_ret ?_
                refine g_qb_ret ?_
                refine g_qt_ret ?_
                exact g_post (Ho := []) (rs := [.tmp 4, .tmp 5]) rfl (.tmp rfl (.tmp rfl .nil)) ⟨by rw [hno (by unfold fitB; first | (rw [if_pos (by assumption)]; exact decide_eq_false (by assumption)) | (rw [if_neg (by assumption), if_pos (by assumption), Bool.and_eq_false_iff]; first | exact .inl (decide_eq_false (by assumption)) | exact .inr (decide_eq_false (by omega))) | (rw [if_neg (by assumption), if_neg (by assumption)]; exact decide_eq_false (by assumption)))]; rfl, rfl⟩ (by repeat' (first | exact Cover.nil | exact Take.here | apply Cover.cons | apply Take.there))
              · refine g_skip ?_
                refine g_qb ?_
                refine g_qb ?_
                refine g_qt ?_
                refine g_region ?_
                first | refine g_pure (p_addi rfl rfl (by omega)) rfl ?_ | refine g_pure (p_add rfl rfl) rfl ?_
                refine g_pure (p_move rfl) rfl ?_
                refine g_nil ?_
                refine g_qn ?_
                exact g_next (i + 1) ⟨by rfl, by rfl, by rfl, by rfl, by rfl, trivial⟩ .nil ⟨by omega, hyes (by unfold fitB; first | (rw [if_pos (by assumption)]; exact decide_eq_true (by assumption)) | (rw [if_neg (by assumption), if_pos (by assumption), Bool.and_eq_true]; exact ⟨decide_eq_true (by assumption), decide_eq_true (by omega)⟩) | (rw [if_neg (by assumption), if_neg (by assumption)]; exact decide_eq_true (by assumption)))⟩ (by omega)
          · refine g_seq ?_
            refine g_region ?_
            refine g_pure (p_move rfl) rfl ?_
            refine g_pure (p_neq rfl rfl) rfl ?_
            refine g_nil ?_
            refine g_qt ?_
            refine g_ifndL rfl (fun h7 => ?_) (fun h7 => ?_)
            · refine g_seq ?_
              refine g_region ?_
              refine g_pure (p_assign rfl) rfl ?_
              refine g_pure (p_assign rfl) rfl ?_
              refine g_nil ?_
              refine g_qt ?_
              refine g_ret ?_
              refine g_qb_ret ?_
              refine g_qb_ret ?_
              refine g_qt_ret ?_
              refine g_qn_ret ?_
              refine g_qb_ret ?_
              refine g_qt_ret ?_
              exact g_post (Ho := []) (rs := [.tmp 4, .tmp 5]) rfl (.tmp rfl (.tmp rfl .nil)) ⟨by rw [hno (by unfold fitB; first | (rw [if_pos (by assumption)]; exact decide_eq_false (by assumption)) | (rw [if_neg (by assumption), if_pos (by assumption), Bool.and_eq_false_iff]; first | exact .inl (decide_eq_false (by assumption)) | exact .inr (decide_eq_false (by omega))) | (rw [if_neg (by assumption), if_neg (by assumption)]; exact decide_eq_false (by assumption)))]; rfl, rfl⟩ (by repeat' (first | exact Cover.nil | exact Take.here | apply Cover.cons | apply Take.there))
            · refine g_skip ?_
              refine g_qb ?_
              refine g_qb ?_
              refine g_qt ?_
              refine g_region ?_
              first | refine g_pure (p_addi rfl rfl (by omega)) rfl ?_ | refine g_pure (p_add rfl rfl) rfl ?_
              refine g_pure (p_move rfl) rfl ?_
              refine g_nil ?_
              refine g_qn ?_
              exact g_next (i + 1) ⟨by rfl, by rfl, by rfl, by rfl, by rfl, trivial⟩ .nil ⟨by omega, hyes (by unfold fitB; first | (rw [if_pos (by assumption)]; exact decide_eq_true (by assumption)) | (rw [if_neg (by assumption), if_pos (by assumption), Bool.and_eq_true]; exact ⟨decide_eq_true (by assumption), decide_eq_true (by omega)⟩) | (rw [if_neg (by assumption), if_neg (by assumption)]; exact decide_eq_true (by assumption)))⟩ (by omega)
      · obtain rfl : i = ts.length := by omega
        rw [List.take_length] at hall
        rw [hgood hall]
        refine g_exit ?_
        refine g_qt_exit ?_
        refine g_qn_exit ?_
        refine g_qb_exit ?_
        refine g_qt ?_
        refine g_seq ?_
        refine g_seq ?_
        refine g_region ?_
        refine g_pure (p_move rfl) rfl ?_
        refine g_pure (p_eql rfl rfl) rfl ?_
        refine g_nil ?_
        refine g_qt ?_
        refine g_ifdL rfl (fun h1 => ?_) (fun h1 => ?_)
        · refine g_seq ?_
          refine g_region ?_
          refine g_pure (p_assign rfl) rfl ?_
          refine g_pure (p_assign rfl) rfl ?_
          refine g_nil ?_
          refine g_qt ?_
          refine g_ret ?_
          refine g_qt_ret ?_
          exact g_post (Ho := []) (rs := [.tmp 4, .tmp 5]) rfl (.tmp rfl (.tmp rfl .nil)) ⟨by first | (rw [if_pos (by assumption)]; rfl) | (rw [if_neg (by assumption)]; rfl), rfl⟩ (by repeat' (first | exact Cover.nil | exact Take.here | apply Cover.cons | apply Take.there))
        · refine g_skip ?_
          refine g_qt ?_
          refine g_seq ?_
          refine g_region ?_
          refine g_pure (p_assign rfl) rfl ?_
          refine g_pure (p_assign rfl) rfl ?_
          refine g_nil ?_
          refine g_qt ?_
          refine g_ret ?_
          exact g_post (Ho := []) (rs := [.tmp 4, .tmp 5]) rfl (.tmp rfl (.tmp rfl .nil)) ⟨by first | (rw [if_pos (by assumption)]; rfl) | (rw [if_neg (by assumption)]; rfl), rfl⟩ (by repeat' (first | exact Cover.nil | exact Take.here | apply Cover.cons | apply Take.there))
end Go.Proofs.YtkbofpcnhjopaaaDoor
