/- Chapter 4: what Cycle returns is a cycle; its vertices are in one part: the law. Conditions: none. -/
import Derived.Test.YtmefecnjliadaaaNx
namespace Go.Proofs.Ytmefecnjliadaaa
set_option maxRecDepth 8000
set_option linter.unusedVariables false
set_option linter.unusedSimpArgs false
set_option linter.unusedSectionVars false
open Go Go.Z Go.Z.Gr Go.Z.Gra
theorem hasT_ok {ρ : Nat → Obj → Prop} (a : Option Addr) (ac : Nat) (E : Ed) (ha : EdR ρ a E) (hl : E.length ≤ 9223372036854775807) (u v : Int) (h : (u, v) ∈ E) :
    Con Try.prog ρ 21 #[.slice a E.length ac, .int .i64 u, .int .i64 v] [] (fun r H => r = .bool true ∧ H = []) := by
  have := has_ok a ac E ha hl u v
  rwa [decide_eq_true h] at this
theorem holdsT_ok {ρ : Nat → Obj → Prop} (a : Option Addr) (ac : Nat) (la : List Int) (ha : RSl ρ 1 a la.length (la.map Z.encI)) (hl : la.length ≤ 9223372036854775807) (v : Int) (h : v ∈ la) :
    Con Try.prog ρ 22 #[.slice a la.length ac, .int .i64 v] [] (fun r H => r = .bool true ∧ H = []) := by
  have := holds_ok a ac la ha hl v
  rwa [decide_eq_true h] at this
theorem roundL_ok {ρ : Nat → Obj → Prop} (n : Int) (a : Option Addr) (c : Nat) (E : Ed) (hE : RSl ρ 2 a E.length (E.flatMap fun e => [Z.encI e.1, Z.encI e.2])) (hc : E.length ≤ c) (hm : c ≤ maxLen) :
    Con Try.prog ρ 7 #[.int .i64 n, .slice a E.length c] [] (fun v _ => v = .bool true) := by
  have hE : EdR ρ a E := hE
  have hm' : c ≤ 9223372036854775807 := hm
  clear hm
  refine con_intro Try.func7 Try.call7 rfl Try.ntmps7 rfl (L := [(0, _), (1, _)]) rfl fun w hh => ?_
  refine g_seq ?_
  refine g_region ?_
  refine g_pure (p_assign rfl) rfl ?_
  refine g_nil ?_
  refine g_qt ?_
  refine g_seq ?_
  refine g_region ?_
  refine g_pure (p_move rfl) rfl ?_
  refine g_call (Hin := []) (Hr := ?hr1) (R := ?rr1) rfl rfl rfl ?hin1 ?hc1 ?hk1
  case hin1 => repeat' (first | exact Cover.nil | exact Take.here | apply Cover.cons | apply Take.there)
  case hc1 => intro ρ' hρ hR; exact few_ok a c E (hE.mono hρ) hc hm'
  rintro _ _ ⟨rfl, rfl⟩
  have hF : EdR ρ a (E.take 400) := hE.take 400
  have hlF : (E.take 400).length ≤ 400 := by rw [List.length_take]; omega
  clear hE hc
  generalize E.take 400 = F at *
  refine g_pure (p_assign rfl) rfl ?_
  refine g_nil ?_
  refine g_qt ?_
  refine g_seq ?_
  refine g_seq ?_
  refine g_region ?_
  refine g_pure (p_move rfl) rfl ?_
  refine g_pure (p_gtr rfl rfl) rfl ?_
  refine g_nil ?_
  refine g_qt ?_
  refine g_ifd rfl (fun h1 => ?_) (fun h1 => ?_)
  · refine g_seq ?_
    refine g_region ?_
    refine g_call (Hin := []) (Hr := ?hr2) (R := ?rr2) rfl rfl rfl ?hin2 ?hc2 ?hk2
    case hin2 => repeat' (first | exact Cover.nil | exact Take.here | apply Cover.cons | apply Take.there)
    case hc2 => intro ρ' hρ hR; exact awake_ok
    rintro _ _ ⟨rfl, rfl⟩
    refine g_pure (p_assign rfl) rfl ?_
    refine g_nil ?_
    refine g_qt ?_
    refine g_ret ?_
    refine g_qt_ret ?_
    exact g_post (rs := [.tmp 4]) rfl (.tmp rfl .nil) rfl .nil
  · refine g_skip ?_
    refine g_qt ?_
    refine g_seq ?_
    refine g_region ?_
    refine g_pure (p_move rfl) rfl ?_
    refine g_pure (p_move rfl) rfl ?_
    refine g_call (Hin := []) (Hr := ?hr3) (R := ?rr3) rfl rfl rfl ?hin3 ?hc3 ?hk3
    case hin3 => repeat' (first | exact Cover.nil | exact Take.here | apply Cover.cons | apply Take.there)
    case hc3 => intro ρ' hρ hR; exact cycle_ok n a c F (hF.mono hρ) (by omega)
    rintro _ _ ⟨x1, y1, rfl, rfl⟩
    refine g_pure (p_move rfl) rfl ?_
    refine g_pure (p_extract rfl rfl) rfl ?_
    refine g_pure (p_extract rfl rfl) rfl ?_
    refine g_pure (p_assign rfl) rfl ?_
    refine g_pure (p_assign rfl) rfl ?_
    refine g_nil ?_
    refine g_qt ?_
    refine g_seq ?_
    refine g_region ?_
    refine g_pure (p_move rfl) rfl ?_
    refine g_pure (p_move rfl) rfl ?_
    refine g_call (Hin := []) (Hr := ?hr4) (R := ?rr4) rfl rfl rfl ?hin4 ?hc4 ?hk4
    case hin4 => repeat' (first | exact Cover.nil | exact Take.here | apply Cover.cons | apply Take.there)
    case hc4 => intro ρ' hρ hR; exact parts_ok n a c F (hF.mono hρ) (by omega)
    rintro _ _ ⟨x2, y2, rfl, rfl⟩
    have hcs := round_cases (n := n) (E := F)
    obtain ⟨hp1, hp2⟩ := parts_rows (n := n) (E := F)
    generalize (partsA n F).1 = ps at *
    generalize (partsA n F).2 = pe at *
    generalize (cycleA n F).2 = ce at *
    generalize (cycleA n F).1 = l at *
    rcases hcs with ⟨rfl, e2⟩ | ⟨rfl, hln, hR⟩
    · refine g_pure (p_move rfl) rfl ?_
      refine g_pure (p_extract rfl rfl) rfl ?_
      refine g_pure (p_extract rfl rfl) rfl ?_
      refine g_pure (p_assign rfl) rfl ?_
      refine g_pure (p_assign rfl) rfl ?_
      refine g_nil ?_
      refine g_qt ?_
      refine g_seq ?_
      refine g_seq ?_
      refine g_region ?_
      refine g_pure (p_move rfl) rfl ?_
      refine g_pure (p_neqT rfl rfl e2) rfl ?_
      refine g_nil ?_
      refine g_qt ?_
      refine g_ift rfl ?_
      refine g_seq ?_
      refine g_region ?_
      refine g_pure (p_move rfl) rfl ?_
      refine g_pure (p_len (by rfl) rfl) rfl ?_
      refine g_pure (p_eqlT rfl rfl rfl) rfl ?_
      refine g_pure (p_move rfl) rfl ?_
      refine g_yes rfl rfl ?_
      refine g_call (Hin := []) (Hr := ?hr5) (R := ?rr5) rfl rfl rfl ?hin5 ?hc5 ?hk5
      case hin5 => repeat' (first | exact Cover.nil | exact Take.here | apply Cover.cons | apply Take.there)
      case hc5 => intro ρ' hρ hR; exact awake_ok
      rintro _ _ ⟨rfl, rfl⟩
      first | refine g_pure (p_pickt rfl rfl) rfl ?_ | refine g_pure (p_pickf rfl rfl) rfl ?_
      refine g_pure (p_assign rfl) rfl ?_
      refine g_nil ?_
      refine g_qt ?_
      refine g_ret ?_
      refine g_qt_ret ?_
      exact g_post (rs := [.tmp 4]) rfl (.tmp rfl .nil) rfl .nil
    · have hl0 := hR.pos
      refine g_freeze (A := OwnSl 3 1 x1 _ y1 _) (by repeat' (first | exact Take.here | apply Take.there)) ?_
      intro ρ1 hρ1 hLo
      have hL : RSl ρ1 1 x1 l.length (l.map Z.encI) := RSl.of_own hLo
      clear hLo
      refine g_freeze (A := Own2 _ _ x2 y2 _) (by repeat' (first | exact Take.here | apply Take.there)) ?_
      intro ρ2 hρ2 hPo
      have hP : LsR ρ2 x2 ps := Own2.ro hPo
      clear hPo
      have hL := hL.mono hρ2
      have hF : EdR ρ2 a F := hF.mono fun b o h => hρ2 _ _ (hρ1 _ _ h)
      obtain ⟨b1, o1, c1, T1, z1, r1, r2, r3⟩ := rsl_at hL hl0
      have r0 := r3 0 hl0
      refine g_pure (p_move rfl) rfl ?_
      refine g_pure (p_extract rfl rfl) rfl ?_
      refine g_pure (p_extract rfl rfl) rfl ?_
      refine g_pure (p_assign rfl) rfl ?_
      refine g_pure (p_assign rfl) rfl ?_
      refine g_nil ?_
      refine g_qt ?_
      refine g_seq ?_
      refine g_seq ?_
      refine g_region ?_
      refine g_pure (p_move rfl) rfl ?_
      refine g_pure (p_neqF rfl rfl rfl) rfl ?_
      refine g_nil ?_
      refine g_qt ?_
      refine g_iff rfl ?_
      refine g_skip ?_
      refine g_qt ?_
      refine g_seq ?_
      refine g_seq ?_
      refine g_region ?_
      refine g_pure (p_move rfl) rfl ?_
      refine g_pure (p_len (by rfl) rfl) rfl ?_
      refine g_pure (p_eqlF rfl rfl (by omega)) rfl ?_
      refine g_pure (p_move rfl) rfl ?_
      refine g_yes rfl rfl ?_
      refine g_pure (p_move rfl) rfl ?_
      refine g_yes rfl rfl ?_
      refine g_pure (p_len (by rfl) rfl) rfl ?_
      refine g_yes rfl rfl ?_
      refine g_pure (p_move rfl) rfl ?_
      refine g_yes rfl rfl ?_
      refine g_pure (p_gtr rfl rfl) rfl ?_
      first | refine g_pure (p_pickt rfl rfl) rfl ?_ | refine g_pure (p_pickf rfl rfl) rfl ?_
      refine g_nil ?_
      refine g_qt ?_
      refine g_ifd rfl (fun g => ?_) (fun g => ?_)
      · exact absurd g (by omega)
      · refine g_skip ?_
        refine g_qt ?_
        refine g_seq ?_
        refine g_seq ?_
        refine g_region ?_
        refine g_pure (p_assign rfl) rfl ?_
        refine g_nil ?_
        refine g_qt ?_
        refine g_block ?_
        refine g_loop (fun i : Nat => [(1, .slice a F.length c), (4, .bool false), (5, .slice x1 l.length y1), (7, .slice x2 ps.length y2), (9, .int .i64 i)])
          (fun i => []) (fun i => i ≤ l.length) (fun i => l.length - i) 0 (Nat.zero_le _) (by (repeat (first | exact trivial | refine ⟨by rfl, ?_⟩)); done) .nil ?_
        rintro i hi
        refine g_seq ?_
        refine g_seq ?_
        refine g_region ?_
        refine g_pure (p_move rfl) rfl ?_
        refine g_pure (p_move rfl) rfl ?_
        refine g_pure (p_len (by rfl) rfl) rfl ?_
        refine g_pure (p_lss rfl rfl) rfl ?_
        refine g_nil ?_
        refine g_qt ?_
        refine g_ifd rfl (fun q => ?_) (fun q => ?_)
        · have hi' : i < l.length := by omega
          have ri := r3 i hi'
          have hnl := nxt_lt hi'
          have rn := r3 (nxt l i) hnl
          have hge := hR.ge i hi'
          have hed := hR.ed i hi'
          have hmod := nxt_mod hi'
          have hne := hR.ne i hi'
          generalize l[i] = li at *
          generalize l[nxt l i] = ln at *
          generalize l[0] = l0 at *
          refine g_skip ?_
          refine g_qt ?_
          refine g_seq ?_
          refine g_block ?_
          refine g_seq ?_
          refine m_begin0 (.fl 0 0 (.fl 1 0 (.fl 2 0 (.fl 3 1 (.fl 4 0 (.fl 5 0 (.fl 6 1 (.fl 7 0 (.fl 8 0 (.fl 9 0 (.fl 10 0 (.fl 11 0 (.fl 12 0 (.fl 13 0 (.fl 14 0 (.fl 15 1 (.fl 16 0 (.fl 17 0 (.fl 18 1 (.fl 19 0 (.fl 20 0 (.fl 21 0 (.fl 22 0 (.fl 23 0 (.fl 24 0 (.fl 25 0 (.fl 26 0 (.fl 27 1 (.fl 28 0 (.fl 29 0 (.fl 30 0 (.fl 31 0 (.fl 32 0 (.fl 33 0 (.fl 34 0 (.fl 35 1 (.ef 36 (.fl 37 0 (.fl 38 0 .done))))))))))))))))))))))))))))))))))))))) (by kernel_rfl) (by kernel_rfl) ?_
          refine m_float0 rfl (fun _ _ => p_move rfl) rfl ?_
          refine m_float0 rfl (fun _ _ => p_move rfl) rfl ?_
          refine m_float0 rfl (fun _ _ => p_indexAddr rfl rfl (by omega) (fun _ => r1)) rfl ?_
          refine m_float rfl (p_load (by rfl) rfl (Has.ro r2) ri) rfl ?_
          refine m_float0 rfl (fun _ _ => p_move rfl) rfl ?_
          refine m_float0 rfl (fun _ _ => p_indexAddr rfl rfl (by omega) (fun _ => r1)) rfl ?_
          refine m_float rfl (p_load (by rfl) rfl (Has.ro r2) r0) rfl ?_
          refine m_float0 rfl (fun _ _ => p_lss rfl rfl) rfl ?_
          refine m_float0 rfl (fun _ _ => p_move rfl) rfl ?_
          refine m_splitd 8 rfl rfl (fun g1 => ?_) (fun g1 => ?_)
          · exact absurd g1 (by omega)
          · refine m_yes0 rfl rfl rfl (fun _ _ => p_move rfl) rfl ?_
            refine m_yes0 rfl rfl rfl (fun _ _ => p_gtr rfl rfl) rfl ?_
            refine m_yes0 rfl rfl rfl (fun _ _ => p_move rfl) rfl ?_
            refine m_splitd 11 rfl rfl (fun g2 => ?_) (fun g2 => ?_)
            · refine m_yes0 rfl rfl rfl (fun _ _ => p_move rfl) rfl ?_
              refine m_yes0 rfl rfl rfl (fun _ _ => p_move rfl) rfl ?_
              refine m_yes0 rfl rfl rfl (fun _ _ => p_indexAddr rfl rfl (by omega) (fun _ => r1)) rfl ?_
              refine m_yes rfl rfl rfl (p_load (by rfl) rfl (Has.ro r2) ri) rfl ?_
              refine m_yes0 rfl rfl rfl (fun _ _ => p_move rfl) rfl ?_
              refine m_yes0 rfl rfl rfl (fun _ _ => p_indexAddr rfl rfl (by omega) (fun _ => r1)) rfl ?_
              refine m_yes rfl rfl rfl (p_load (by rfl) rfl (Has.ro r2) r0) rfl ?_
              refine m_yes0 rfl rfl rfl (fun _ _ => p_eqlF rfl rfl (hne (by omega))) rfl ?_
              first | refine m_yes0 rfl rfl rfl (fun _ _ => p_pickt rfl rfl) rfl ?_ | refine m_yes0 rfl rfl rfl (fun _ _ => p_pickf rfl rfl) rfl ?_
              first | refine m_float0 rfl (fun _ _ => p_pickt rfl rfl) rfl ?_ | refine m_float0 rfl (fun _ _ => p_pickf rfl rfl) rfl ?_
              refine m_float0 rfl (fun _ _ => p_move rfl) rfl ?_
              refine m_yes0 rfl rfl rfl (fun _ _ => p_move rfl) rfl ?_
              refine m_yes0 rfl rfl rfl (fun _ _ => p_move rfl) rfl ?_
              refine m_yes0 rfl rfl rfl (fun _ _ => p_move rfl) rfl ?_
              refine m_yes0 rfl rfl rfl (fun _ _ => p_indexAddr rfl rfl (by omega) (fun _ => r1)) rfl ?_
              refine m_yes rfl rfl rfl (p_load (by rfl) rfl (Has.ro r2) ri) rfl ?_
              refine m_yes0 rfl rfl rfl (fun _ _ => p_move rfl) rfl ?_
              refine m_yes0 rfl rfl rfl (fun _ _ => p_move rfl) rfl ?_
              first | refine m_yes0 rfl rfl rfl (fun _ _ => p_addi rfl rfl (by omega)) rfl ?_ | refine m_yes0 rfl rfl rfl (fun _ _ => p_add rfl rfl) rfl ?_
              refine m_yes0 rfl rfl rfl (fun _ _ => p_move rfl) rfl ?_
              refine m_yes0 rfl rfl rfl (fun _ _ => p_len (by rfl) rfl) rfl ?_
              refine m_yes0 rfl rfl rfl (fun _ _ => p_remE rfl rfl (by omega) (by omega) hmod) rfl ?_
              refine m_yes0 rfl rfl rfl (fun _ _ => p_indexAddr rfl rfl (by omega) (fun _ => r1)) rfl ?_
              refine m_yes rfl rfl rfl (p_load (by rfl) rfl (Has.ro r2) rn) rfl ?_
              refine m_call (Hin := []) (Hr := ?hr6) (R := ?rr6) rfl (wantedY rfl rfl) rfl rfl rfl ?hin6 ?hc6 ?hk6
              case hin6 => repeat' (first | exact Cover.nil | exact Take.here | apply Cover.cons | apply Take.there)
              case hc6 => intro ρ' hρ hR; exact hasT_ok a c F (hF.mono hρ) (by omega) li ln hed
              rintro _ _ ⟨rfl, rfl⟩
              refine ⟨.none (by kernel_rfl), ?_⟩
              refine m_yes0 rfl rfl rfl (fun _ _ => p_not rfl) rfl ?_
              first | refine m_float0 rfl (fun _ _ => p_pickt rfl rfl) rfl ?_ | refine m_float0 rfl (fun _ _ => p_pickf rfl rfl) rfl ?_
              refine m_nil ?_
              refine g_qt ?_
              refine g_iff rfl ?_
              refine g_skip ?_
              refine g_qb ?_
              refine g_qt ?_
              refine g_region ?_
              refine g_pure (p_move rfl) rfl ?_
              first | refine g_pure (p_addi rfl rfl (by omega)) rfl ?_ | refine g_pure (p_add rfl rfl) rfl ?_
              refine g_pure (p_assign rfl) rfl ?_
              refine g_nil ?_
              refine g_qn ?_
              exact g_next (i + 1) (by (repeat (first | exact trivial | refine ⟨by rfl, ?_⟩)); done) .nil (by omega) (by omega)
            · refine m_no0 rfl rfl rfl rfl rfl ?_
              refine m_no0 rfl rfl rfl rfl rfl ?_
              refine m_no0 rfl rfl rfl rfl rfl ?_
              refine m_no rfl rfl rfl rfl rfl ?_
              refine m_no0 rfl rfl rfl rfl rfl ?_
              refine m_no0 rfl rfl rfl rfl rfl ?_
              refine m_no rfl rfl rfl rfl rfl ?_
              refine m_no0 rfl rfl rfl rfl rfl ?_
              first | refine m_yes0 rfl rfl rfl (fun _ _ => p_pickt rfl rfl) rfl ?_ | refine m_yes0 rfl rfl rfl (fun _ _ => p_pickf rfl rfl) rfl ?_
              first | refine m_float0 rfl (fun _ _ => p_pickt rfl rfl) rfl ?_ | refine m_float0 rfl (fun _ _ => p_pickf rfl rfl) rfl ?_
              refine m_float0 rfl (fun _ _ => p_move rfl) rfl ?_
              refine m_yes0 rfl rfl rfl (fun _ _ => p_move rfl) rfl ?_
              refine m_yes0 rfl rfl rfl (fun _ _ => p_move rfl) rfl ?_
              refine m_yes0 rfl rfl rfl (fun _ _ => p_move rfl) rfl ?_
              refine m_yes0 rfl rfl rfl (fun _ _ => p_indexAddr rfl rfl (by omega) (fun _ => r1)) rfl ?_
              refine m_yes rfl rfl rfl (p_load (by rfl) rfl (Has.ro r2) ri) rfl ?_
              refine m_yes0 rfl rfl rfl (fun _ _ => p_move rfl) rfl ?_
              refine m_yes0 rfl rfl rfl (fun _ _ => p_move rfl) rfl ?_
              first | refine m_yes0 rfl rfl rfl (fun _ _ => p_addi rfl rfl (by omega)) rfl ?_ | refine m_yes0 rfl rfl rfl (fun _ _ => p_add rfl rfl) rfl ?_
              refine m_yes0 rfl rfl rfl (fun _ _ => p_move rfl) rfl ?_
              refine m_yes0 rfl rfl rfl (fun _ _ => p_len (by rfl) rfl) rfl ?_
              refine m_yes0 rfl rfl rfl (fun _ _ => p_remE rfl rfl (by omega) (by omega) hmod) rfl ?_
              refine m_yes0 rfl rfl rfl (fun _ _ => p_indexAddr rfl rfl (by omega) (fun _ => r1)) rfl ?_
              refine m_yes rfl rfl rfl (p_load (by rfl) rfl (Has.ro r2) rn) rfl ?_
              refine m_call (Hin := []) (Hr := ?hr7) (R := ?rr7) rfl (wantedY rfl rfl) rfl rfl rfl ?hin7 ?hc7 ?hk7
              case hin7 => repeat' (first | exact Cover.nil | exact Take.here | apply Cover.cons | apply Take.there)
              case hc7 => intro ρ' hρ hR; exact hasT_ok a c F (hF.mono hρ) (by omega) li ln hed
              rintro _ _ ⟨rfl, rfl⟩
              refine ⟨.none (by kernel_rfl), ?_⟩
              refine m_yes0 rfl rfl rfl (fun _ _ => p_not rfl) rfl ?_
              first | refine m_float0 rfl (fun _ _ => p_pickt rfl rfl) rfl ?_ | refine m_float0 rfl (fun _ _ => p_pickf rfl rfl) rfl ?_
              refine m_nil ?_
              refine g_qt ?_
              refine g_iff rfl ?_
              refine g_skip ?_
              refine g_qb ?_
              refine g_qt ?_
              refine g_region ?_
              refine g_pure (p_move rfl) rfl ?_
              first | refine g_pure (p_addi rfl rfl (by omega)) rfl ?_ | refine g_pure (p_add rfl rfl) rfl ?_
              refine g_pure (p_assign rfl) rfl ?_
              refine g_nil ?_
              refine g_qn ?_
              exact g_next (i + 1) (by (repeat (first | exact trivial | refine ⟨by rfl, ?_⟩)); done) .nil (by omega) (by omega)
        · refine g_exit ?_
          refine g_qt_exit ?_
          refine g_qn_exit ?_
          refine g_qb_exit ?_
          refine g_qt ?_
          refine g_seq ?_
          refine g_seq ?_
          refine g_region ?_
          refine g_pure (p_assign rfl) rfl ?_
          refine g_nil ?_
          refine g_qt ?_
          refine g_block ?_
          refine g_loop (fun i : Nat => [(4, .bool false), (5, .slice x1 l.length y1), (7, .slice x2 ps.length y2), (10, .int .i64 i)])
            (fun i => []) (fun i => i ≤ ps.length ∧ ∀ k (h : k < ps.length), k < i → l[0] ∉ ps[k]) (fun i => ps.length - i) 0 ⟨Nat.zero_le _, fun k _ h => absurd h (Nat.not_lt_zero _)⟩ (by (repeat (first | exact trivial | refine ⟨by rfl, ?_⟩)); done) .nil ?_
          rintro j ⟨hj, hno⟩
          refine g_seq ?_
          refine g_seq ?_
          refine g_region ?_
          refine g_pure (p_move rfl) rfl ?_
          refine g_pure (p_move rfl) rfl ?_
          refine g_pure (p_len (by rfl) rfl) rfl ?_
          refine g_pure (p_lss rfl rfl) rfl ?_
          refine g_nil ?_
          refine g_qt ?_
          refine g_ifd rfl (fun y => ?_) (fun y => ?_)
          · have hj' : j < ps.length := by omega
            have hpm := List.getElem_mem hj'
            have hfull := hR.full _ hpm
            have hhead := hR.head _ hpm hfull
            have hone := hR.one _ hpm
            have hsm := hp2 _ hpm
            obtain ⟨d1, e1, f1, S1, w1, u1, v1, s1, s2, s3, s4⟩ := hP.at hj'
            obtain ⟨d2, e2, f2, S2, w2, t1, t2, t3⟩ := rsl_at s4 hfull
            have t0 := t3 0 hfull
            have hnx : l[0] ∉ ps[j] → ∀ k (h : k < ps.length), k < j + 1 → l[0] ∉ ps[k] := fun hn k h hk => by
              by_cases e : k = j
              · subst e; exact hn
              · exact hno k h (by omega)
            refine g_skip ?_
            refine g_qt ?_
            refine g_seq ?_
            refine g_block ?_
            refine g_seq ?_
            refine m_begin0 (.fl 0 0 (.fl 1 0 (.fl 2 0 (.fl 3 1 (.fl 4 0 (.fl 5 0 (.fl 6 0 (.fl 7 0 (.fl 8 0 (.fl 9 0 (.fl 10 1 (.fl 11 0 (.fl 12 1 (.fl 13 0 (.fl 14 0 (.fl 15 1 (.fl 16 0 (.fl 17 0 (.fl 18 0 (.fl 19 0 (.fl 20 0 (.fl 21 0 (.fl 22 1 (.fl 23 0 (.fl 24 0 (.fl 25 1 (.ef 26 (.fl 27 0 .done)))))))))))))))))))))))))))) (by kernel_rfl) (by kernel_rfl) ?_
            refine m_float0 rfl (fun _ _ => p_move rfl) rfl ?_
            refine m_float0 rfl (fun _ _ => p_move rfl) rfl ?_
            refine m_float0 rfl (fun _ _ => p_indexAddr rfl rfl (by omega) (fun _ => s1)) rfl ?_
            refine m_float rfl (p_load (by rfl) rfl (Has.ro s2) s3) rfl ?_
            refine m_float0 rfl (fun _ _ => p_len (by rfl) rfl) rfl ?_
            refine m_float0 rfl (fun _ _ => p_gtr rfl rfl) rfl ?_
            refine m_float0 rfl (fun _ _ => p_move rfl) rfl ?_
            refine m_splitd 6 rfl rfl (fun g1 => ?_) (fun g1 => ?_)
            · refine m_yes0 rfl rfl rfl (fun _ _ => p_move rfl) rfl ?_
              refine m_yes0 rfl rfl rfl (fun _ _ => p_move rfl) rfl ?_
              refine m_yes0 rfl rfl rfl (fun _ _ => p_indexAddr rfl rfl (by omega) (fun _ => s1)) rfl ?_
              refine m_yes rfl rfl rfl (p_load (by rfl) rfl (Has.ro s2) s3) rfl ?_
              refine m_yes0 rfl rfl rfl (fun _ _ => p_indexAddr rfl rfl (by omega) (fun _ => t1)) rfl ?_
              refine m_yes rfl rfl rfl (p_load (by rfl) rfl (Has.ro t2) t0) rfl ?_
              refine m_yes0 rfl rfl rfl (fun _ _ => p_move rfl) rfl ?_
              refine m_yes0 rfl rfl rfl (fun _ _ => p_indexAddr rfl rfl (by omega) (fun _ => r1)) rfl ?_
              refine m_yes rfl rfl rfl (p_load (by rfl) rfl (Has.ro r2) r0) rfl ?_
              refine m_yes0 rfl rfl rfl (fun _ _ => p_leq rfl rfl) rfl ?_
              first | refine m_float0 rfl (fun _ _ => p_pickt rfl rfl) rfl ?_ | refine m_float0 rfl (fun _ _ => p_pickf rfl rfl) rfl ?_
              refine m_float0 rfl (fun _ _ => p_move rfl) rfl ?_
              refine m_splitd 18 rfl rfl (fun g2 => ?_) (fun g2 => ?_)
              · refine m_yes0 rfl rfl rfl (fun _ _ => p_move rfl) rfl ?_
                refine m_yes0 rfl rfl rfl (fun _ _ => p_move rfl) rfl ?_
                refine m_yes0 rfl rfl rfl (fun _ _ => p_indexAddr rfl rfl (by omega) (fun _ => s1)) rfl ?_
                refine m_yes rfl rfl rfl (p_load (by rfl) rfl (Has.ro s2) s3) rfl ?_
                refine m_yes0 rfl rfl rfl (fun _ _ => p_move rfl) rfl ?_
                refine m_yes0 rfl rfl rfl (fun _ _ => p_indexAddr rfl rfl (by omega) (fun _ => r1)) rfl ?_
                refine m_yes rfl rfl rfl (p_load (by rfl) rfl (Has.ro r2) r0) rfl ?_
                refine m_call (Hin := []) (Hr := ?hr8) (R := ?rr8) rfl (wantedY rfl rfl) rfl rfl rfl ?hin8 ?hc8 ?hk8
                case hin8 => repeat' (first | exact Cover.nil | exact Take.here | apply Cover.cons | apply Take.there)
                case hc8 => intro ρ' hρ hR; exact holds_ok u1 v1 ps[j] (s4.mono hρ) (by omega) l[0]
                rintro _ _ ⟨rfl, rfl⟩
                refine ⟨.none (by kernel_rfl), ?_⟩
                first | refine m_float0 rfl (fun _ _ => p_pickt rfl rfl) rfl ?_ | refine m_float0 rfl (fun _ _ => p_pickf rfl rfl) rfl ?_
                refine m_nil ?_
                refine g_qt ?_
                refine g_ifd rfl (fun g3 => ?_) (fun g3 => ?_)
                · refine g_seq ?_
                  refine g_seq ?_
                  refine g_region ?_
                  refine g_pure (p_assign rfl) rfl ?_
                  refine g_nil ?_
                  refine g_qt ?_
                  refine g_block ?_
                  refine g_loop (fun k : Nat => [(4, .bool false), (5, .slice x1 l.length y1), (7, .slice x2 ps.length y2), (10, .int .i64 j), (11, .int .i64 k)])
                    (fun i => []) (fun k => k ≤ l.length) (fun k => l.length - k) 0 (Nat.zero_le _) (by (repeat (first | exact trivial | refine ⟨by rfl, ?_⟩)); done) .nil ?_
                  rintro k hk
                  refine g_seq ?_
                  refine g_seq ?_
                  refine g_region ?_
                  refine g_pure (p_move rfl) rfl ?_
                  refine g_pure (p_move rfl) rfl ?_
                  refine g_pure (p_len (by rfl) rfl) rfl ?_
                  refine g_pure (p_lss rfl rfl) rfl ?_
                  refine g_nil ?_
                  refine g_qt ?_
                  refine g_ifd rfl (fun x => ?_) (fun x => ?_)
                  · have hk' : k < l.length := by omega
                    have rk := r3 k hk'
                    have hin := hone g3 _ (List.getElem_mem hk')
                    refine g_skip ?_
                    refine g_qt ?_
                    refine g_seq ?_
                    refine g_block ?_
                    refine g_seq ?_
                    refine m_begin0 (.fl 0 0 (.fl 1 0 (.fl 2 0 (.fl 3 1 (.fl 4 0 (.fl 5 0 (.fl 6 0 (.fl 7 1 (.ef 8 (.fl 9 0 .done)))))))))) (by kernel_rfl) (by kernel_rfl) ?_
                    refine m_float0 rfl (fun _ _ => p_move rfl) rfl ?_
                    refine m_float0 rfl (fun _ _ => p_move rfl) rfl ?_
                    refine m_float0 rfl (fun _ _ => p_indexAddr rfl rfl (by omega) (fun _ => s1)) rfl ?_
                    refine m_float rfl (p_load (by rfl) rfl (Has.ro s2) s3) rfl ?_
                    refine m_float0 rfl (fun _ _ => p_move rfl) rfl ?_
                    refine m_float0 rfl (fun _ _ => p_move rfl) rfl ?_
                    refine m_float0 rfl (fun _ _ => p_indexAddr rfl rfl (by omega) (fun _ => r1)) rfl ?_
                    refine m_float rfl (p_load (by rfl) rfl (Has.ro r2) rk) rfl ?_
                    refine m_call (Hin := []) (Hr := ?hr9) (R := ?rr9) rfl wantedN rfl rfl rfl ?hin9 ?hc9 ?hk9
                    case hin9 => repeat' (first | exact Cover.nil | exact Take.here | apply Cover.cons | apply Take.there)
                    case hc9 => intro ρ' hρ hR; exact holdsT_ok u1 v1 ps[j] (s4.mono hρ) (by omega) l[k] hin
                    rintro _ _ ⟨rfl, rfl⟩
                    refine ⟨.none (by kernel_rfl), ?_⟩
                    refine m_float0 rfl (fun _ _ => p_not rfl) rfl ?_
                    refine m_nil ?_
                    refine g_qt ?_
                    refine g_iff rfl ?_
                    refine g_skip ?_
                    refine g_qb ?_
                    refine g_qt ?_
                    refine g_region ?_
                    refine g_pure (p_move rfl) rfl ?_
                    first | refine g_pure (p_addi rfl rfl (by omega)) rfl ?_ | refine g_pure (p_add rfl rfl) rfl ?_
                    refine g_pure (p_assign rfl) rfl ?_
                    refine g_nil ?_
                    refine g_qn ?_
                    exact g_next (k + 1) (by (repeat (first | exact trivial | refine ⟨by rfl, ?_⟩)); done) .nil (by omega) (by omega)
                  · refine g_exit ?_
                    refine g_qt_exit ?_
                    refine g_qn_exit ?_
                    refine g_qb_exit ?_
                    refine g_qt ?_
                    refine g_seq ?_
                    refine g_region ?_
                    refine g_call (Hin := []) (Hr := ?hr10) (R := ?rr10) rfl rfl rfl ?hin10 ?hc10 ?hk10
                    case hin10 => repeat' (first | exact Cover.nil | exact Take.here | apply Cover.cons | apply Take.there)
                    case hc10 => intro ρ' hρ hR; exact awake_ok
                    rintro _ _ ⟨rfl, rfl⟩
                    refine g_pure (p_assign rfl) rfl ?_
                    refine g_nil ?_
                    refine g_qt ?_
                    refine g_ret ?_
                    refine g_qb_ret ?_
                    refine g_qt_ret ?_
                    refine g_qn_ret ?_
                    refine g_qb_ret ?_
                    refine g_qt_ret ?_
                    refine g_thaw hρ2 ?_
                    refine g_thaw hρ1 ?_
                    exact g_post (rs := [.tmp 4]) rfl (.tmp rfl .nil) rfl .nil
                · refine g_skip ?_
                  refine g_qb ?_
                  refine g_qt ?_
                  refine g_region ?_
                  refine g_pure (p_move rfl) rfl ?_
                  first | refine g_pure (p_addi rfl rfl (by omega)) rfl ?_ | refine g_pure (p_add rfl rfl) rfl ?_
                  refine g_pure (p_assign rfl) rfl ?_
                  refine g_nil ?_
                  refine g_qn ?_
                  exact g_next (j + 1) (by (repeat (first | exact trivial | refine ⟨by rfl, ?_⟩)); done) .nil ⟨by omega, hnx g3⟩ (by omega)
              · refine m_no0 rfl rfl rfl rfl rfl ?_
                refine m_no0 rfl rfl rfl rfl rfl ?_
                refine m_no0 rfl rfl rfl rfl rfl ?_
                refine m_no rfl rfl rfl rfl rfl ?_
                refine m_no0 rfl rfl rfl rfl rfl ?_
                refine m_no0 rfl rfl rfl rfl rfl ?_
                refine m_no rfl rfl rfl rfl rfl ?_
                refine m_noe rfl rfl rfl rfl rfl (.none (by kernel_rfl)) ?_
                first | refine m_float0 rfl (fun _ _ => p_pickt rfl rfl) rfl ?_ | refine m_float0 rfl (fun _ _ => p_pickf rfl rfl) rfl ?_
                refine m_nil ?_
                refine g_qt ?_
                refine g_iff rfl ?_
                refine g_skip ?_
                refine g_qb ?_
                refine g_qt ?_
                refine g_region ?_
                refine g_pure (p_move rfl) rfl ?_
                first | refine g_pure (p_addi rfl rfl (by omega)) rfl ?_ | refine g_pure (p_add rfl rfl) rfl ?_
                refine g_pure (p_assign rfl) rfl ?_
                refine g_nil ?_
                refine g_qn ?_
                exact g_next (j + 1) (by (repeat (first | exact trivial | refine ⟨by rfl, ?_⟩)); done) .nil ⟨by omega, hnx fun hm => g2 (hhead hm)⟩ (by omega)
            · exact absurd g1 (by omega)
          · obtain ⟨k, h1, h2⟩ := hR.some
            exact absurd h2 (hno k h1 (by omega))
end Go.Proofs.Ytmefecnjliadaaa
