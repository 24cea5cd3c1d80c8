/- Chapter 37: propagation. Conditions: none. -/
import Derived.Test.YtbpgblbhikeglaaS8
namespace Go.Proofs.Ytbpgblbhikeglaa
set_option linter.unusedVariables false
set_option linter.unusedSimpArgs false
set_option linter.unusedSectionVars false
open Go Go.Z Go.Z.Sat

theorem okL_neg {n : Nat} {l : Int} (h : okL n l) : okL n (-l) := ⟨by have := h.1; omega, by have := h.2; omega, by have := h.2; omega⟩

theorem propagate_ok {ρ : Nat → Obj → Prop} {s : Nat} {p : Sp} {F : Fm} (hO : Ok p.n F) (hm : p.m = F.length) (hU : RSl2 ρ p.ua (usesV p.n F)) (hF : FmR ρ p.ca F) {a V : As} {T : List Int} {d : Nat} (hI : Inv p.n F a V T) (hd : d ≤ T.length) (hP : ∀ c ∈ F, Pend V T d c) :
    Con Try.prog ρ 30 #[.pointer (some ⟨s, 0, none⟩)] [Sv s p V T (trues F V) d] (fun v H => ∃ V' T' d', H = [Sv s p V' T' (trues F V') d'] ∧ Inv p.n F a V' T' ∧ T <+: T' ∧ ((v = .bool false ∧ PR F a none) ∨ (v = .bool true ∧ d' = T'.length ∧ PR F a (some V')))) := by
  have hlen := hO.len
  have hvars := hO.vars
  obtain ⟨bu, ou, ku, Tu, fu, u1, u2, u3⟩ := usesV_at hU
  refine con_intro Try.func30 Try.call30 rfl Try.ntmps30 rfl (L := [(0, _)]) rfl fun w hh => ?_
  refine g_seq ?_
  refine g_region ?_
  refine g_pure (p_assign rfl) rfl ?_
  refine g_nil ?_
  refine g_qt ?_
  refine g_seq ?_
  refine g_block ?_
  refine g_loop (fun q : As × List Int × Nat => [(0, .pointer (some ⟨s, 0, none⟩))])
    (fun q => [Sv s p q.1 q.2.1 (trues F q.1) q.2.2]) (fun q => Inv p.n F a q.1 q.2.1 ∧ T <+: q.2.1 ∧ q.2.2 ≤ q.2.1.length ∧ ∀ c ∈ F, Pend q.1 q.2.1 q.2.2 c) (fun q => p.n - q.2.2) (V, T, d) ⟨hI, List.prefix_refl _, hd, hP⟩ (by repeat (first | exact trivial | refine ⟨by rfl, ?_⟩)) (by repeat' (first | exact Cover.nil | exact Take.here | apply Cover.cons | apply Take.there)) ?_
  rintro ⟨V1, T1, d1⟩ ⟨hI1, hpre, hd1, hP1⟩
  dsimp only at hI1 hpre hd1 hP1 ⊢
  have hTn : T1.length ≤ p.n := by have := hI1.cnt; omega
  refine g_open .here ?_
  rintro _ ⟨va, vc, ta, tc, xa, xc, rfl⟩
  refine g_seq ?_
  refine g_seq ?_
  refine m_begin0 (.fl 0 0 (.fl 1 0 (.fl 2 0 (.fl 3 1 (.fl 4 0 (.fl 5 0 (.fl 6 0 (.fl 7 1 (.fl 8 0 (.fl 9 0 .done)))))))))) (by kernel_rfl) (by kernel_rfl) ?_
  refine m_float0 rfl (fun _ _ => p_move rfl) rfl ?_
  refine m_float0 rfl (fun _ _ => p_nilCheck rfl) rfl ?_
  refine m_float0 rfl (fun _ _ => p_fieldAddr rfl) rfl ?_
  refine m_float rfl (p_load (by rfl) rfl (by first | (apply Has.own; (repeat' (first | exact Take.here | apply Take.there)); done) | exact Has.ro (by assumption)) (by first | rfl | assumption)) rfl ?_
  refine m_float0 rfl (fun _ _ => p_move rfl) rfl ?_
  refine m_float0 rfl (fun _ _ => p_nilCheck rfl) rfl ?_
  refine m_float0 rfl (fun _ _ => p_fieldAddr rfl) rfl ?_
  refine m_float rfl (p_load (by rfl) rfl (by first | (apply Has.own; (repeat' (first | exact Take.here | apply Take.there)); done) | exact Has.ro (by assumption)) (by first | rfl | assumption)) rfl ?_
  refine m_float0 rfl (fun _ _ => p_len (by rfl) rfl) rfl ?_
  refine m_float0 rfl (fun _ _ => p_lss rfl rfl) rfl ?_
  refine m_nil ?_
  refine g_qt ?_
  refine g_ifd rfl (fun q => ?_) (fun q => ?_)
  · have hdl : d1 < T1.length := by omega
    refine g_own (.there (.there .here)) (fun _ h _ _ => absurd h (by omega)) ?_
    rintro gt curt rfl q1 q2 q3 q4 q5
    have xt : curt[0 + (d1 : Int).toNat * 1]? = some (encI T1[d1]) := own_at (k := d1) q4 (by simp) (mapI _ hdl)
    have hl := hI1.lits T1[d1] (List.getElem_mem hdl)
    have hnl := okL_neg hl
    obtain ⟨h0, hl1, hl2⟩ := id hl
    obtain ⟨ai, ci, w1, _, bi, oi, ki, Ti, fi, w2⟩ := u3 (-T1[d1]) hnl
    have hrl := hO.rows (uix (-T1[d1]))
    have hmem : ∀ i (hi : i < F.length), -T1[d1] ∈ F[i] → i ∈ useRow F (uix (-T1[d1])) := fun i hi hx => useRow_mem hi hx rfl
    generalize hlk : T1[d1] = l at *
    obtain ⟨us, hus⟩ : ∃ us, us = useRow F (uix (-l)) := ⟨_, rfl⟩
    refine g_skip ?_
    refine g_qt ?_
    refine g_block ?_
    refine g_seq ?_
    refine m_begin0 (.fl 0 0 (.fl 1 0 (.fl 2 0 (.fl 3 1 (.fl 4 0 (.fl 5 0 (.fl 6 0 (.fl 7 1 (.fl 8 0 (.fl 9 1 (.fl 10 0 .done))))))))))) (by kernel_rfl) (by kernel_rfl) ?_
    refine m_float0 rfl (fun _ _ => p_move rfl) rfl ?_
    refine m_float0 rfl (fun _ _ => p_nilCheck rfl) rfl ?_
    refine m_float0 rfl (fun _ _ => p_fieldAddr rfl) rfl ?_
    refine m_float rfl (p_load (by rfl) rfl (by first | (apply Has.own; (repeat' (first | exact Take.here | apply Take.there)); done) | exact Has.ro (by assumption)) (by first | rfl | assumption)) rfl ?_
    refine m_float0 rfl (fun _ _ => p_move rfl) rfl ?_
    refine m_float0 rfl (fun _ _ => p_nilCheck rfl) rfl ?_
    refine m_float0 rfl (fun _ _ => p_fieldAddr rfl) rfl ?_
    refine m_float rfl (p_load (by rfl) rfl (by first | (apply Has.own; (repeat' (first | exact Take.here | apply Take.there)); done) | exact Has.ro (by assumption)) (by first | rfl | assumption)) rfl ?_
    refine m_float0 rfl (fun _ _ => p_indexAddr rfl rfl (by omega) (fun _ => rfl)) rfl ?_
    refine m_float rfl (p_load (by rfl) rfl (Has.own (by repeat' (first | exact Take.here | apply Take.there))) xt) rfl ?_
    refine m_float0 rfl (fun _ _ => p_assign rfl) rfl ?_
    refine m_nil ?_
    refine g_qt ?_
    refine g_seq ?_
    refine g_region ?_
    refine g_pure (p_move rfl) rfl ?_
    refine g_pure (p_nilCheck rfl) rfl ?_
    refine g_pure (p_fieldAddr rfl) rfl ?_
    refine g_pure (p_load (by rfl) rfl (by first | (apply Has.own; (repeat' (first | exact Take.here | apply Take.there)); done) | exact Has.ro (by assumption)) (by first | rfl | assumption)) rfl ?_
    first | refine g_pure (p_addi rfl rfl (by omega)) rfl ?_ | refine g_pure (p_add rfl rfl) rfl ?_
    refine g_pure (p_nilCheck rfl) rfl ?_
    refine g_pure (p_fieldAddr rfl) rfl ?_
    first | refine g_eff0 (e_storeO rfl rfl (by rfl) (by rfl) (by rfl) (by repeat' (first | exact Take.here | apply Take.there)) (by rfl)) (fun _ _ => ?_) | refine g_eff0 (e_store1 (by rfl) rfl rfl rfl (by repeat' (first | exact Take.here | apply Take.there)) (by first | decide | (simp <;> omega) | omega)) (fun _ _ => ?_)
    rintro rfl
    refine g_nil ?_
    refine g_qt ?_
    refine g_seq ?_
    refine m_begin0 (.fl 0 0 (.fl 1 0 (.fl 2 0 (.fl 3 1 (.fl 4 0 (.fl 5 0 (.fl 10 0 (.ef 6 (.fl 7 0 (.fl 8 1 (.fl 9 0 .done))))))))))) (by kernel_rfl) (by kernel_rfl) ?_
    refine m_float0 rfl (fun _ _ => p_move rfl) rfl ?_
    refine m_float0 rfl (fun _ _ => p_nilCheck rfl) rfl ?_
    refine m_float0 rfl (fun _ _ => p_fieldAddr rfl) rfl ?_
    refine m_float rfl (p_load (by rfl) rfl (by first | (apply Has.own; (repeat' (first | exact Take.here | apply Take.there)); done) | exact Has.ro (by assumption)) (by first | rfl | assumption)) rfl ?_
    refine m_float0 rfl (fun _ _ => p_move rfl) rfl ?_
    first | refine m_float0 rfl (fun _ _ => p_negi rfl (by omega)) rfl ?_ | refine m_float0 rfl (fun _ _ => p_neg rfl) rfl ?_
    refine m_float0 rfl (fun _ _ => p_move rfl) rfl ?_
    refine m_call (Hin := []) (Hr := ?hr1) (R := ?rr1) rfl wantedN rfl rfl rfl ?hin1 ?hc1 ?hk1
    case hin1 => repeat' (first | exact Cover.nil | exact Take.here | apply Cover.cons | apply Take.there)
    case hc1 => intro ρ' hρ hR; exact index_ok (-l) (by omega)
    rintro _ _ ⟨rfl, rfl⟩
    refine ⟨.some (by repeat' (first | exact Cover.nil | exact Take.here | apply Cover.cons | apply Take.there)), ?_⟩
    refine m_float0 rfl (fun _ _ => p_indexAddr rfl rfl (by unfold uix; split <;> omega) (fun _ => u1)) rfl ?_
    refine m_float rfl (p_load (by rfl) rfl (Has.ro u2) w1) rfl ?_
    refine m_float0 rfl (fun _ _ => p_len (by rfl) rfl) rfl ?_
    refine m_nil ?_
    refine g_qt ?_
    refine g_block ?_
    refine g_fold (k := T1.length) (cap := tc) (size := 1) (xs := T1.map encI) (cur := curt) (g := gt) (by repeat' (first | exact Take.here | apply Take.there)) q1 q2 q3 q4 ?_
    refine sv_close (V := V1) (T := T1) (X := trues F V1) (d := d1 + 1) (by repeat' (first | exact Cover.nil | exact Take.here | apply Cover.cons | apply Take.there)) rfl rfl rfl rfl rfl rfl ?_
    rw [← hus] at hrl hmem w2 ⊢
    refine g_loop (fun r : Nat × As × List Int => [(0, .pointer (some ⟨s, 0, none⟩)), (41, .slice ai us.length ci), (42, .int .i64 us.length), (43, .int .i64 r.1)])
      (fun r => [Sv s p r.2.1 r.2.2 (trues F r.2.1) (d1 + 1)]) (fun r => r.1 ≤ us.length ∧ Inv p.n F a r.2.1 r.2.2 ∧ T <+: r.2.2 ∧ d1 + 1 ≤ r.2.2.length ∧ ∀ i (h : i < F.length), Pend r.2.1 r.2.2 (d1 + 1) F[i] ∨ i ∈ us.drop r.1) (fun r => us.length - r.1) (0, V1, T1) ⟨Nat.zero_le _, hI1, hpre, hdl, fun i hi => ?_⟩ (by repeat (first | exact trivial | refine ⟨by rfl, ?_⟩)) (by repeat' (first | exact Cover.nil | exact Take.here | apply Cover.cons | apply Take.there)) ?_
    · rcases hP1 F[i] (List.getElem_mem hi) with h | ⟨t, h1, h2, h3⟩
      · exact .inl (.inl h)
      · by_cases e : t = d1
        · subst e
          rw [hlk] at h3
          exact .inr (hmem i hi h3)
        · exact .inl (.inr ⟨t, by omega, h2, h3⟩)
    rintro ⟨j, V2, T2⟩ ⟨hj, hI2, hpre2, hd2, hP2⟩
    dsimp only at hj hI2 hpre2 hd2 hP2 ⊢
    refine g_seq ?_
    refine g_region ?_
    refine g_pure (p_lss rfl rfl) rfl ?_
    refine g_nil ?_
    refine g_qt ?_
    refine g_seq ?_
    refine g_ifd rfl (fun r => ?_) (fun r => ?_)
    · have hjl : j < us.length := by omega
      obtain ⟨hi, -⟩ := useRow_lt (F := F) (k := uix (-l)) (i := us[j]) (by rw [← hus]; exact List.getElem_mem hjl)
      obtain ⟨w3, w4, w5⟩ := w2 (by omega)
      have x2 : ki[oi + (j : Int).toNat * 1]? = some (encN us[j]) := flat2 w5 (i := j) (by simp [List.getElem?_eq_getElem hjl]) (by simp)
      rw [List.drop_eq_getElem_cons hjl] at hP2
      refine g_skip ?_
      refine g_qt ?_
      refine g_seq ?_
      refine g_block ?_
      refine g_seq ?_
      refine g_region ?_
      refine g_pure (p_indexAddr rfl rfl (by omega) (fun _ => w3)) rfl ?_
      refine g_pure (p_load (by rfl) rfl (Has.ro w4) x2) rfl ?_
      refine g_pure (p_assign rfl) rfl ?_
      refine g_nil ?_
      refine g_qt ?_
      refine g_seq ?_
      refine g_region ?_
      refine g_pure (p_move rfl) rfl ?_
      refine g_pure (p_move rfl) rfl ?_
      rcases cl_step hO.lits hI2 (List.getElem_mem hi) with ⟨h1, h2⟩ | ⟨V3, T3, h1, h2, h3, h4, h5, h6⟩
      · refine g_call (Hin := [Sv s p V2 T2 (trues F V2) (d1 + 1)]) (Hr := ?hr2) (R := ?rr2) rfl rfl rfl ?hin2 ?hc2 ?hk2
        case hin2 => repeat' (first | exact Cover.nil | exact Take.here | apply Cover.cons | apply Take.there)
        case hc2 => intro ρ' hρ hR; exact clause_at (d := d1 + 1) hO hm (hU.mono hρ) (hF.mono hρ) hI2.cnt hi h1
        rintro _ _ ⟨rfl, rfl⟩
        refine g_pure (p_not rfl) rfl ?_
        refine g_nil ?_
        refine g_qt ?_
        refine g_ift rfl ?_
        refine g_seq ?_
        refine g_region ?_
        refine g_pure (p_assign rfl) rfl ?_
        refine g_nil ?_
        refine g_qt ?_
        refine g_ret ?_
        refine g_qb_ret ?_
        refine g_qt_ret ?_
        refine g_qn_ret ?_
        refine g_qb_ret ?_
        refine g_qb_ret ?_
        refine g_qn_ret ?_
        refine g_qb_ret ?_
        refine g_qt_ret ?_
        exact g_post (rs := [.tmp 2]) rfl (.tmp rfl .nil) ⟨V2, T2, d1 + 1, rfl, hI2, hpre2, .inl ⟨rfl, h2⟩⟩ (by repeat' (first | exact Cover.nil | exact Take.here | apply Cover.cons | apply Take.there))
      · refine g_call (Hin := [Sv s p V2 T2 (trues F V2) (d1 + 1)]) (Hr := ?hr3) (R := ?rr3) rfl rfl rfl ?hin3 ?hc3 ?hk3
        case hin3 => repeat' (first | exact Cover.nil | exact Take.here | apply Cover.cons | apply Take.there)
        case hc3 => intro ρ' hρ hR; exact clause_at (d := d1 + 1) hO hm (hU.mono hρ) (hF.mono hρ) hI2.cnt hi h1
        rintro _ _ ⟨rfl, rfl⟩
        refine g_pure (p_not rfl) rfl ?_
        refine g_nil ?_
        refine g_qt ?_
        refine g_iff rfl ?_
        refine g_skip ?_
        refine g_qb ?_
        refine g_qt ?_
        refine g_region ?_
        first | refine g_pure (p_addi rfl rfl (by omega)) rfl ?_ | refine g_pure (p_add rfl rfl) rfl ?_
        refine g_pure (p_move rfl) rfl ?_
        refine g_nil ?_
        refine g_qn ?_
        refine g_next (j + 1, V3, T3) (by repeat (first | exact trivial | refine ⟨by rfl, ?_⟩)) (by repeat' (first | exact Cover.nil | exact Take.here | apply Cover.cons | apply Take.there)) ⟨by dsimp only; omega, h2, hpre2.trans (cl_pre h1), by dsimp only; omega, fun i hil => ?_⟩ (by dsimp only; omega)
        dsimp only
        rcases hP2 i hil with h | h
        · exact .inl (h6 _ hd2 _ (List.getElem_mem hil) h)
        · rcases List.mem_cons.1 h with h | h
          · subst h; exact .inl (.inl h3)
          · exact .inr h
    · have hje : j = us.length := by omega
      rw [hje, List.drop_length] at hP2
      refine g_exit ?_
      refine g_qt_exit ?_
      refine g_qn_exit ?_
      refine g_qb_exit ?_
      refine g_qb ?_
      refine g_qn ?_
      refine g_next (V2, T2, d1 + 1) (by repeat (first | exact trivial | refine ⟨by rfl, ?_⟩)) (by repeat' (first | exact Cover.nil | exact Take.here | apply Cover.cons | apply Take.there)) ⟨hI2, hpre2, hd2, fun c hc => ?_⟩ (by dsimp only; omega)
      obtain ⟨i, hi, rfl⟩ := List.getElem_of_mem hc
      rcases hP2 i hi with h | h
      · exact h
      · exact absurd h List.not_mem_nil
  · have hde : d1 = T1.length := by omega
    refine g_exit ?_
    refine g_qt_exit ?_
    refine g_qn_exit ?_
    refine g_qb_exit ?_
    refine g_qt ?_
    refine g_seq ?_
    refine g_region ?_
    refine g_pure (p_assign rfl) rfl ?_
    refine g_nil ?_
    refine g_qt ?_
    refine g_ret ?_
    refine sv_close (V := V1) (T := T1) (X := trues F V1) (d := d1) (by repeat' (first | exact Cover.nil | exact Take.here | apply Cover.cons | apply Take.there)) rfl rfl rfl rfl rfl rfl ?_
    refine g_post (rs := [.tmp 2]) rfl (.tmp rfl .nil) ⟨V1, T1, d1, rfl, hI1, hpre, .inr ⟨rfl, hde, hI1.snd.done fun c hc => ?_⟩⟩ (by repeat' (first | exact Cover.nil | exact Take.here | apply Cover.cons | apply Take.there))
    rcases hP1 c hc with h | ⟨t, h1, h2, _⟩
    · exact h
    · omega
end Go.Proofs.Ytbpgblbhikeglaa
