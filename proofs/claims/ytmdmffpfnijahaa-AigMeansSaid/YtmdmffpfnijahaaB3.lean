/- Chapter 35: the law of values. Conditions: none. -/
import Derived.Test.YtmdmffpfnijahaaB2
namespace Go.Proofs.Ytmdmffpfnijahaa
set_option linter.unusedVariables false
set_option linter.unusedSimpArgs false
set_option linter.unusedSectionVars false
open Go Go.Z Go.Z.Aig

theorem evals_ok {ρ : Nat → Obj → Prop} (a : Option Addr) (c : Nat) (l : List Call) (hl : RSl ρ 4 a l.length (l.flatMap encC)) (hx : ∀ x ∈ l, x.ok)
    (ia : Option Addr) (ic : Nat) (inp : List Bool) (hin : RSl ρ 1 ia inp.length (inp.map encB)) (la : Option Addr) (lc : Nat) (ls : List Int) (hls : RSl ρ 1 la ls.length (ls.map encI)) (hr : ∀ x ∈ ls, I64 x) :
    Con Try.prog ρ 4 #[.slice a l.length c, .slice ia inp.length ic, .slice la ls.length lc] [] (fun v _ => v = .bool true) := by
  obtain ⟨_, bl, ol, kl, Tl, fl, hl2⟩ := id hls
  refine con_intro Try.func4 Try.call4 rfl Try.ntmps4 rfl (L := [(0, _), (1, _), (2, _)]) rfl fun w hh => ?_
  refine g_seq ?_
  refine g_region ?_
  refine g_pure (p_assign rfl) rfl ?_
  refine g_nil ?_
  refine g_qt ?_
  refine g_seq ?_
  refine g_seq ?_
  refine g_region ?_
  refine g_pure (p_move rfl) rfl ?_
  refine g_pure (p_len (by rfl) rfl) rfl ?_
  refine g_pure (p_gtr rfl rfl) rfl ?_
  refine g_pure (p_move rfl) rfl ?_
  refine g_splitd rfl rfl (fun h1 => ?_) (fun h1 => ?_)
  · refine g_no rfl rfl rfl rfl ?_
    refine g_no rfl rfl rfl rfl ?_
    refine g_no rfl rfl rfl rfl ?_
    first | refine g_pure (p_pickt rfl rfl) rfl ?_ | refine g_pure (p_pickf rfl rfl) rfl ?_
    refine g_pure (p_move rfl) rfl ?_
    refine g_no rfl rfl rfl rfl ?_
    refine g_no rfl rfl rfl rfl ?_
    refine g_no rfl rfl rfl rfl ?_
    first | refine g_pure (p_pickt rfl rfl) rfl ?_ | refine g_pure (p_pickf rfl rfl) rfl ?_
    refine g_nil ?_
    refine g_qt ?_
    refine g_ift rfl ?_
    refine g_seq ?_
    refine g_region ?_
    refine g_call (Hin := []) (Hr := ?hr1) (R := ?rr1) rfl rfl rfl ?hin1 ?hc1 ?hk1
    case hin1 => repeat' (first | exact Cover.nil | exact Take.here | apply Cover.cons | apply Take.there)
    case hc1 => intro ρ' hρ hR; exact lives_ok
    rintro _ _ ⟨rfl, rfl⟩
    refine g_pure (p_assign rfl) rfl ?_
    refine g_nil ?_
    refine g_qt ?_
    refine g_ret ?_
    refine g_qt_ret ?_
    exact g_post (rs := [.tmp 6]) rfl (.tmp rfl .nil) rfl .nil
  · refine g_yes rfl rfl ?_
    refine g_pure (p_move rfl) rfl ?_
    refine g_yes rfl rfl ?_
    refine g_pure (p_len (by rfl) rfl) rfl ?_
    refine g_yes rfl rfl ?_
    refine g_pure (p_gtr rfl rfl) rfl ?_
    first | refine g_pure (p_pickt rfl rfl) rfl ?_ | refine g_pure (p_pickf rfl rfl) rfl ?_
    refine g_pure (p_move rfl) rfl ?_
    refine g_splitd rfl rfl (fun h2 => ?_) (fun h2 => ?_)
    · refine g_no rfl rfl rfl rfl ?_
      refine g_no rfl rfl rfl rfl ?_
      refine g_no rfl rfl rfl rfl ?_
      first | refine g_pure (p_pickt rfl rfl) rfl ?_ | refine g_pure (p_pickf rfl rfl) rfl ?_
      refine g_nil ?_
      refine g_qt ?_
      refine g_ift rfl ?_
      refine g_seq ?_
      refine g_region ?_
      refine g_call (Hin := []) (Hr := ?hr2) (R := ?rr2) rfl rfl rfl ?hin2 ?hc2 ?hk2
      case hin2 => repeat' (first | exact Cover.nil | exact Take.here | apply Cover.cons | apply Take.there)
      case hc2 => intro ρ' hρ hR; exact lives_ok
      rintro _ _ ⟨rfl, rfl⟩
      refine g_pure (p_assign rfl) rfl ?_
      refine g_nil ?_
      refine g_qt ?_
      refine g_ret ?_
      refine g_qt_ret ?_
      exact g_post (rs := [.tmp 6]) rfl (.tmp rfl .nil) rfl .nil
    · refine g_yes rfl rfl ?_
      refine g_pure (p_move rfl) rfl ?_
      refine g_yes rfl rfl ?_
      refine g_pure (p_len (by rfl) rfl) rfl ?_
      refine g_yes rfl rfl ?_
      refine g_pure (p_gtr rfl rfl) rfl ?_
      first | refine g_pure (p_pickt rfl rfl) rfl ?_ | refine g_pure (p_pickf rfl rfl) rfl ?_
      refine g_nil ?_
      refine g_qt ?_
      refine g_ifd rfl (fun h3 => ?_) (fun h3 => ?_)
      · refine g_seq ?_
        refine g_region ?_
        refine g_call (Hin := []) (Hr := ?hr3) (R := ?rr3) rfl rfl rfl ?hin3 ?hc3 ?hk3
        case hin3 => repeat' (first | exact Cover.nil | exact Take.here | apply Cover.cons | apply Take.there)
        case hc3 => intro ρ' hρ hR; exact lives_ok
        rintro _ _ ⟨rfl, rfl⟩
        refine g_pure (p_assign rfl) rfl ?_
        refine g_nil ?_
        refine g_qt ?_
        refine g_ret ?_
        refine g_qt_ret ?_
        exact g_post (rs := [.tmp 6]) rfl (.tmp rfl .nil) rfl .nil
      · refine g_skip ?_
        refine g_qt ?_
        refine g_seq ?_
        refine g_region ?_
        refine g_pure (p_move rfl) rfl ?_
        refine g_call (Hin := []) (Hr := ?hr4) (R := ?rr4) rfl rfl rfl ?hin4 ?hc4 ?hk4
        case hin4 => repeat' (first | exact Cover.nil | exact Take.here | apply Cover.cons | apply Take.there)
        case hc4 => intro ρ' hρ hR; exact built_ok a c l (hl.mono hρ) (by omega) hx
        rintro _ _ ⟨p, m, rfl, rfl⟩
        refine g_pure (p_move rfl) rfl ?_
        refine g_pure (p_extract rfl rfl) rfl ?_
        refine g_pure (p_extract rfl rfl) rfl ?_
        refine g_pure (p_extract rfl rfl) rfl ?_
        refine g_pure (p_assign rfl) rfl ?_
        refine g_pure (p_assign rfl) rfl ?_
        refine g_pure (p_assign rfl) rfl ?_
        refine g_nil ?_
        refine g_qt ?_
        refine g_seq ?_
        refine g_seq ?_
        refine g_region ?_
        refine g_pure (p_move rfl) rfl ?_
        refine g_pure (p_not rfl) rfl ?_
        refine g_nil ?_
        refine g_qt ?_
        refine g_iff rfl ?_
        refine g_skip ?_
        refine g_qt ?_
        refine g_seq ?_
        refine g_region ?_
        refine g_pure (p_assign rfl) rfl ?_
        refine g_nil ?_
        refine g_qt ?_
        refine g_seq ?_
        refine g_region ?_
        refine g_pure (p_assign rfl) rfl ?_
        refine g_nil ?_
        refine g_qt ?_
        refine g_seq ?_
        refine g_seq ?_
        refine g_region ?_
        refine g_pure (p_assign rfl) rfl ?_
        refine g_nil ?_
        refine g_qt ?_
        refine g_block ?_
        refine g_ownnil (e := 22) (size := 1) ?_
        refine g_ownnil (e := 35) (size := 1) ?_
        refine g_loop (fun s : Nat × Option Addr × Nat × Option Addr × Nat => [(1, .slice ia inp.length ic), (2, .slice la ls.length lc), (7, .pointer (some ⟨p, 0, none⟩)), (8, .pointer (some ⟨m, 0, none⟩)), (10, .slice s.2.1 s.1 s.2.2.1), (11, .slice s.2.2.2.1 s.1 s.2.2.2.2), (12, .int .i64 s.1)])
          (fun s => [OwnSl 22 1 s.2.1 s.1 s.2.2.1 ((ls.take s.1).map encI), OwnSl 35 1 s.2.2.2.1 s.1 s.2.2.2.2 ((ls.take s.1).map encI), Gr p (after l), Rf m (after l)]) (fun s => s.1 ≤ ls.length) (fun s => ls.length - s.1) (0, none, 0, none, 0) (Nat.zero_le _) (by repeat (first | exact trivial | refine ⟨by rfl, ?_⟩)) (by repeat' (first | exact Cover.nil | exact Take.here | apply Cover.cons | apply Take.there)) ?_
        rintro ⟨k, aa, ca, ab, cb⟩ hk
        dsimp only at hk ⊢
        refine g_seq ?_
        refine g_seq ?_
        refine g_region ?_
        refine g_pure (p_move rfl) rfl ?_
        refine g_pure (p_move rfl) rfl ?_
        refine g_pure (p_len (by rfl) rfl) rfl ?_
        refine g_pure (p_lss rfl rfl) rfl ?_
        refine g_nil ?_
        refine g_qt ?_
        refine g_ifd rfl (fun q => ?_) (fun q => ?_)
        · have hkl : k < ls.length := by omega
          obtain ⟨l1, l2, l3⟩ := hl2 (by omega)
          have xl : kl[ol + (k : Int).toNat * 1]? = some (encI ls[k]) := flat2 l3 (i := k) (by simp [List.getElem?_eq_getElem hkl]) (by simp)
          have e6 : (ls.take k).map encI ++ [encI ls[k]] = (ls.take (k + 1)).map encI := by
            rw [List.take_add_one, List.getElem?_eq_getElem hkl, Option.toList_some, List.map_append]; rfl
          refine g_skip ?_
          refine g_qt ?_
          refine g_seq ?_
          refine g_block ?_
          refine g_seq ?_
          refine g_region ?_
          refine g_pure (p_move rfl) rfl ?_
          refine g_pure (p_move rfl) rfl ?_
          refine g_pure (p_move rfl) rfl ?_
          refine g_pure (p_indexAddr rfl rfl (by omega) (fun _ => l1)) rfl ?_
          refine g_pure (p_load (by rfl) rfl (Has.ro l2) xl) rfl ?_
          refine g_eff (e_bs (xs := [.tmp 50]) rfl rfl rfl (by rfl) (by rfl) rfl (by rfl)) rfl (fun _ _ => ?_)
          rintro ⟨b51, rfl, rfl⟩
          refine g_eff (e_appendO (by rfl) (by rfl) rfl rfl (by first | (apply Has.own; (repeat' (first | exact Take.here | apply Take.there)); done) | exact Has.ro (by assumption)) (by rfl) (by rfl) (by repeat' (first | exact Take.here | apply Take.there)) (by omega) (by first | omega | (dsimp only; omega) | (simp <;> omega)) (by omega)) rfl (fun _ _ => ?_)
          rintro ⟨a52, c52, rfl, rfl⟩
          refine g_pure (p_assign rfl) rfl ?_
          refine g_nil ?_
          refine g_qt ?_
          refine g_region ?_
          refine g_pure (p_move rfl) rfl ?_
          refine g_pure (p_move rfl) rfl ?_
          refine g_pure (p_move rfl) rfl ?_
          refine g_pure (p_indexAddr rfl rfl (by omega) (fun _ => l1)) rfl ?_
          refine g_pure (p_load (by rfl) rfl (Has.ro l2) xl) rfl ?_
          refine g_eff (e_bs (xs := [.tmp 57]) rfl rfl rfl (by rfl) (by rfl) rfl (by rfl)) rfl (fun _ _ => ?_)
          rintro ⟨b58, rfl, rfl⟩
          refine g_eff (e_appendO (by rfl) (by rfl) rfl rfl (by first | (apply Has.own; (repeat' (first | exact Take.here | apply Take.there)); done) | exact Has.ro (by assumption)) (by rfl) (by rfl) (by repeat' (first | exact Take.here | apply Take.there)) (by omega) (by first | omega | (dsimp only; omega) | (simp <;> omega)) (by omega)) rfl (fun _ _ => ?_)
          rintro ⟨a59, c59, rfl, rfl⟩
          refine g_pure (p_assign rfl) rfl ?_
          refine g_nil ?_
          refine g_qb ?_
          refine g_qt ?_
          refine g_region ?_
          refine g_pure (p_move rfl) rfl ?_
          first | refine g_pure (p_addi rfl rfl (by omega)) rfl ?_ | refine g_pure (p_add rfl rfl) rfl ?_
          refine g_pure (p_assign rfl) rfl ?_
          refine g_nil ?_
          refine g_qn ?_
          rw [e6]
          exact g_next (k + 1, _, _, _, _) (by repeat (first | exact trivial | refine ⟨by rfl, ?_⟩)) (by repeat' (first | exact Cover.nil | exact Take.here | apply Cover.cons | apply Take.there)) (by dsimp only; omega) (by dsimp only; omega)
        · have hke : k = ls.length := by omega
          subst hke
          rw [List.take_of_length_le (Nat.le_refl _)]
          refine gr_wf (S := after l) (by repeat' (first | exact Take.here | apply Take.there)) fun hw => ?_
          refine g_exit ?_
          refine g_qt_exit ?_
          refine g_qn_exit ?_
          refine g_qb_exit ?_
          refine g_qt ?_
          refine g_seq ?_
          refine g_region ?_
          refine g_pure (p_move rfl) rfl ?_
          refine g_pure (p_move rfl) rfl ?_
          refine g_pure (p_move rfl) rfl ?_
          refine g_call (Hin := []) (Hr := ?hr5) (R := ?rr5) rfl rfl rfl ?hin5 ?hc5 ?hk5
          case hin5 => repeat' (first | exact Cover.nil | exact Take.here | apply Cover.cons | apply Take.there)
          case hc5 => intro ρ' hρ hR; exact eval_ok p (after l) ia ic inp (hin.mono hρ) aa ca ls (.of_own hR.1) (by omega) (by omega) hr hR.2.2.1
          rintro _ _ ⟨va, vc, rfl, rfl⟩
          refine g_pure (p_move rfl) rfl ?_
          refine g_pure (p_extract rfl rfl) rfl ?_
          refine g_pure (p_extract rfl rfl) rfl ?_
          refine g_pure (p_assign rfl) rfl ?_
          refine g_pure (p_assign rfl) rfl ?_
          refine g_nil ?_
          refine g_qt ?_
          refine g_seq ?_
          refine g_region ?_
          refine g_pure (p_move rfl) rfl ?_
          refine g_pure (p_move rfl) rfl ?_
          refine g_pure (p_move rfl) rfl ?_
          refine g_call (Hin := []) (Hr := ?hr6) (R := ?rr6) rfl rfl rfl ?hin6 ?hc6 ?hk6
          case hin6 => repeat' (first | exact Cover.nil | exact Take.here | apply Cover.cons | apply Take.there)
          case hc6 => intro ρ' hρ hR; exact reval_ok m (after l) hw ia ic inp (hin.mono hρ) ab cb ls (.of_own hR.2.2.1) (by omega) (by omega) hR.2.2.2.2.1
          rintro _ _ ⟨wa, wc, rfl, rfl⟩
          refine g_pure (p_move rfl) rfl ?_
          refine g_pure (p_extract rfl rfl) rfl ?_
          refine g_pure (p_extract rfl rfl) rfl ?_
          refine g_pure (p_assign rfl) rfl ?_
          refine g_pure (p_assign rfl) rfl ?_
          refine g_nil ?_
          refine g_qt ?_
          refine g_seq ?_
          refine g_seq ?_
          refine g_region ?_
          refine g_pure (p_move rfl) rfl ?_
          refine g_pure (p_move rfl) rfl ?_
          refine g_pure (p_neqF rfl rfl rfl) rfl ?_
          refine g_pure (p_move rfl) rfl ?_
          refine g_yes rfl rfl ?_
          refine g_pure (p_move rfl) rfl ?_
          refine g_yes rfl rfl ?_
          refine g_pure (p_len (by rfl) rfl) rfl ?_
          refine g_yes rfl rfl ?_
          refine g_pure (p_move rfl) rfl ?_
          refine g_yes rfl rfl ?_
          refine g_pure (p_len (by rfl) rfl) rfl ?_
          refine g_yes rfl rfl ?_
          refine g_pure (p_neqF rfl rfl rfl) rfl ?_
          first | refine g_pure (p_pickt rfl rfl) rfl ?_ | refine g_pure (p_pickf rfl rfl) rfl ?_
          refine g_nil ?_
          refine g_qt ?_
          refine g_iff rfl ?_
          refine g_skip ?_
          refine g_qt ?_
          refine g_seq ?_
          refine g_seq ?_
          refine g_region ?_
          refine g_pure (p_assign rfl) rfl ?_
          refine g_nil ?_
          refine g_qt ?_
          refine g_block ?_
          generalize (eval1 (after l) inp ls).1 = V at *
          refine g_cap (e := 4) (a1 := va) (k := V.length) (by repeat' (first | exact Take.here | apply Take.there)) fun kc1 kc2 => ?_
          refine g_loop (fun k : Nat => [(13, .slice va V.length vc), (15, .slice wa V.length wc), (17, .int .i64 k)]) (fun k => [OwnSl 4 1 wa V.length wc (V.map encB), OwnSl 4 1 va V.length vc (V.map encB)]) (fun k => k ≤ V.length) (fun k => V.length - k) 0 (Nat.zero_le _) (by repeat (first | exact trivial | refine ⟨by rfl, ?_⟩)) (by repeat' (first | exact Cover.nil | exact Take.here | apply Cover.cons | apply Take.there)) fun k hk => ?_
          refine g_seq ?_
          refine g_seq ?_
          refine g_region ?_
          refine g_pure (p_move rfl) rfl ?_
          refine g_pure (p_move rfl) rfl ?_
          refine g_pure (p_len (by rfl) rfl) rfl ?_
          refine g_pure (p_lss rfl rfl) rfl ?_
          refine g_nil ?_
          refine g_qt ?_
          refine g_ifd rfl (fun z => ?_) (fun z => ?_)
          · have hkl : k < V.length := by omega
            refine g_own .here (fun _ h _ _ => absurd h (by omega)) ?_
            rintro gw curw rfl w1 w2 w3 w4 w5
            refine g_own (.there .here) (fun _ h _ _ => absurd h (by omega)) ?_
            rintro gv curv rfl v1 v2 v3 v4 v5
            have xw : curw[0 + (k : Int).toNat * 1]? = some (encB V[k]) := own_at (k := k) w4 (by omega) (by simp [List.getElem?_eq_getElem hkl])
            have xv : curv[0 + (k : Int).toNat * 1]? = some (encB V[k]) := own_at (k := k) v4 (by omega) (by simp [List.getElem?_eq_getElem hkl])
            refine g_skip ?_
            refine g_qt ?_
            refine g_seq ?_
            refine g_block ?_
            refine g_seq ?_
            refine m_begin0 [(0, 0), (1, 0), (2, 0), (3, 1), (4, 0), (5, 0), (6, 0), (7, 1), (8, 0)] (by kernel_rfl) (by kernel_rfl) ?_
            refine m_float0 rfl (fun _ _ => p_move rfl) rfl ?_
            refine m_float0 rfl (fun _ _ => p_move rfl) rfl ?_
            refine m_float0 rfl (fun _ _ => p_indexAddr rfl rfl (by omega) (fun _ => rfl)) rfl ?_
            refine m_float rfl (p_load (by rfl) rfl (Has.own (by repeat' (first | exact Take.here | apply Take.there))) xv) rfl ?_
            refine m_float0 rfl (fun _ _ => p_move rfl) rfl ?_
            refine m_float0 rfl (fun _ _ => p_move rfl) rfl ?_
            refine m_float0 rfl (fun _ _ => p_indexAddr rfl rfl (by omega) (fun _ => rfl)) rfl ?_
            refine m_float rfl (p_load (by rfl) rfl (Has.own (by repeat' (first | exact Take.here | apply Take.there))) xw) rfl ?_
            refine m_float0 rfl (fun _ _ => p_neqb (by rfl) rfl rfl) rfl ?_
            refine m_nil ?_
            refine g_qt ?_
            have eb : (!(V[k] == V[k])) = false := by simp
            rw [eb]
            refine g_iff rfl ?_
            refine g_skip ?_
            refine g_qb ?_
            refine g_qt ?_
            refine g_region ?_
            refine g_pure (p_move rfl) rfl ?_
            first | refine g_pure (p_addi rfl rfl (by omega)) rfl ?_ | refine g_pure (p_add rfl rfl) rfl ?_
            refine g_pure (p_assign rfl) rfl ?_
            refine g_nil ?_
            refine g_qn ?_
            refine g_fold (k := V.length) (cap := vc) (size := 1) .here v1 v2 v3 v4 ?_
            refine g_fold (k := V.length) (cap := wc) (size := 1) (.there .here) w1 w2 w3 w4 ?_
            exact g_next (k + 1) (by repeat (first | exact trivial | refine ⟨by rfl, ?_⟩)) (by repeat' (first | exact Cover.nil | exact Take.here | apply Cover.cons | apply Take.there)) (by omega) (by omega)
          · refine g_exit ?_
            refine g_qt_exit ?_
            refine g_qn_exit ?_
            refine g_qb_exit ?_
            refine g_qt ?_
            refine g_seq ?_
            refine g_region ?_
            refine g_call (Hin := []) (Hr := ?hr7) (R := ?rr7) rfl rfl rfl ?hin7 ?hc7 ?hk7
            case hin7 => repeat' (first | exact Cover.nil | exact Take.here | apply Cover.cons | apply Take.there)
            case hc7 => intro ρ' hρ hR; exact lives_ok
            rintro _ _ ⟨rfl, rfl⟩
            refine g_pure (p_assign rfl) rfl ?_
            refine g_nil ?_
            refine g_qt ?_
            refine g_ret ?_
            exact g_post (rs := [.tmp 6]) rfl (.tmp rfl .nil) rfl .nil
end Go.Proofs.Ytmdmffpfnijahaa
