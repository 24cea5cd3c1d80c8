/- Chapter 35, the document's side: selections. Conditions: none. -/
import Derived.Test.YtmdmffpfnijahaaA7
namespace Go.Proofs.Ytmdmffpfnijahaa
set_option linter.unusedVariables false
set_option linter.unusedSimpArgs false
set_option linter.unusedSectionVars false
open Go Go.Z Go.Z.Aig

theorem rand0_ok {ρ : Nat → Obj → Prop} (m : Nat) (S : St) (a b : Int) (hl : S.length ≤ 131072) (ha : has S a) (hb : has S b) : Con Try.prog ρ 36 #[.pointer (some ⟨m, 0, none⟩), .int .i64 a, .int .i64 b] [Rf m S]
    (fun v H => v = .tuple #[.int .i64 (and0 S a b).1, .int .i64 (and0 S a b).2.1] ∧ H = [Rf m (and0 S a b).2.2]) := by
  have h := rand_ok (ρ := ρ) m S a b (by have := ha.1; have := ha.2; unfold I64; omega) (by have := hb.1; have := hb.2; unfold I64; omega)
  have e : and1 S a b = and0 S a b := by unfold and1; rw [hasB_iff.2 ha, hasB_iff.2 hb]; rfl
  rwa [e] at h

def orX (S : St) (a b : Int) : Int × Int × St := let r := and0 S (nt a) (nt b); if r.2.1 = 0 then (nt r.1, 0, r.2.2) else (0, r.2.1, r.2.2)
theorem ror0_ok {ρ : Nat → Obj → Prop} (m : Nat) (S : St) (a b : Int) (hl : S.length ≤ 131072) (ha : has S a) (hb : has S b) : Con Try.prog ρ 37 #[.pointer (some ⟨m, 0, none⟩), .int .i64 a, .int .i64 b] [Rf m S]
    (fun v H => v = .tuple #[.int .i64 (orX S a b).1, .int .i64 (orX S a b).2.1] ∧ H = [Rf m (orX S a b).2.2]) := by
  have h := ror_ok (ρ := ρ) m S a b (by have := ha.1; have := ha.2; unfold I64; omega) (by have := hb.1; have := hb.2; unfold I64; omega)
  have e : or1 S a b = orX S a b := by unfold or1; rw [hasB_iff.2 ha, hasB_iff.2 hb]; rfl
  rwa [e] at h

def two1 (S : St) (a b c d : Int) : Int × Int × St := if hasB S a && (hasB S b && (hasB S c && hasB S d)) then two S a b c d else (0, 14, S)

theorem rtwo_ok {ρ : Nat → Obj → Prop} (m : Nat) (S : St) (a b c d : Int) : Con Try.prog ρ 45 #[.pointer (some ⟨m, 0, none⟩), .int .i64 a, .int .i64 b, .int .i64 c, .int .i64 d] [Rf m S]
    (fun v H => v = .tuple #[.int .i64 (two1 S a b c d).1, .int .i64 (two1 S a b c d).2.1] ∧ H = [Rf m (two1 S a b c d).2.2]) := by
  refine con_intro Try.func45 Try.call45 rfl Try.ntmps45 rfl (L := [(0, _), (1, _), (2, _), (3, _), (4, _)]) rfl fun w hh => ?_
  refine rf_len .here fun hz hl => ?_
  refine g_seq ?_
  refine g_region ?_
  refine g_pure (p_assign rfl) rfl ?_
  refine g_pure (p_assign rfl) rfl ?_
  refine g_nil ?_
  refine g_qt ?_
  refine g_seq ?_
  refine g_seq ?_
  refine g_region ?_
  refine g_pure (p_move rfl) rfl ?_
  refine g_pure (p_move rfl) rfl ?_
  refine g_call (Hin := []) (Hr := ?hr1) (R := ?rr1) rfl rfl rfl ?hin1 ?hc1 ?hk1
  case hin1 => repeat' (first | exact Cover.nil | exact Take.here | apply Cover.cons | apply Take.there)
  case hc1 => intro ρ' hρ hR; exact rhas_ok m S a hR.1
  rintro _ _ ⟨rfl, rfl⟩
  refine g_pure (p_not rfl) rfl ?_
  refine g_pure (p_move rfl) rfl ?_
  cases ea : hasB S a with
  | false =>
    refine g_no rfl rfl rfl rfl ?_
    refine g_no rfl rfl rfl rfl ?_
    refine g_no rfl rfl rfl rfl ?_
    refine g_no rfl rfl rfl rfl ?_
    first | refine g_pure (p_pickt rfl rfl) rfl ?_ | refine g_pure (p_pickf rfl rfl) rfl ?_
    refine g_pure (p_move rfl) rfl ?_
    refine g_no rfl rfl rfl rfl ?_
    refine g_no rfl rfl rfl rfl ?_
    refine g_no rfl rfl rfl rfl ?_
    refine g_no rfl rfl rfl rfl ?_
    first | refine g_pure (p_pickt rfl rfl) rfl ?_ | refine g_pure (p_pickf rfl rfl) rfl ?_
    refine g_pure (p_move rfl) rfl ?_
    refine g_no rfl rfl rfl rfl ?_
    refine g_no rfl rfl rfl rfl ?_
    refine g_no rfl rfl rfl rfl ?_
    refine g_no rfl rfl rfl rfl ?_
    first | refine g_pure (p_pickt rfl rfl) rfl ?_ | refine g_pure (p_pickf rfl rfl) rfl ?_
    refine g_nil ?_
    refine g_qt ?_
    refine g_ift rfl ?_
    refine g_seq ?_
    refine g_region ?_
    refine g_pure (p_assign rfl) rfl ?_
    refine g_pure (p_assign rfl) rfl ?_
    refine g_nil ?_
    refine g_qt ?_
    refine g_ret ?_
    refine g_qt_ret ?_
    have e : two1 S a b c d = (0, 14, S) := by unfold two1; rw [ea]; rfl
    exact g_post (rs := [.tmp 10, .tmp 11]) rfl (.tmp rfl (.tmp rfl .nil)) ⟨by rw [e]; rfl, by rw [e]⟩ (by repeat' (first | exact Cover.nil | exact Take.here | apply Cover.cons | apply Take.there))
  | true =>
    refine g_yes rfl rfl ?_
    refine g_pure (p_move rfl) rfl ?_
    refine g_yes rfl rfl ?_
    refine g_pure (p_move rfl) rfl ?_
    refine g_yes rfl rfl ?_
    refine g_call (Hin := []) (Hr := ?hr2) (R := ?rr2) rfl rfl rfl ?hin2 ?hc2 ?hk2
    case hin2 => repeat' (first | exact Cover.nil | exact Take.here | apply Cover.cons | apply Take.there)
    case hc2 => intro ρ' hρ hR; exact rhas_ok m S b hR.1
    rintro _ _ ⟨rfl, rfl⟩
    refine g_yes rfl rfl ?_
    refine g_pure (p_not rfl) rfl ?_
    first | refine g_pure (p_pickt rfl rfl) rfl ?_ | refine g_pure (p_pickf rfl rfl) rfl ?_
    refine g_pure (p_move rfl) rfl ?_
    cases eb : hasB S b with
    | false =>
      refine g_no rfl rfl rfl rfl ?_
      refine g_no rfl rfl rfl rfl ?_
      refine g_no rfl rfl rfl rfl ?_
      refine g_no rfl rfl rfl rfl ?_
      first | refine g_pure (p_pickt rfl rfl) rfl ?_ | refine g_pure (p_pickf rfl rfl) rfl ?_
      refine g_pure (p_move rfl) rfl ?_
      refine g_no rfl rfl rfl rfl ?_
      refine g_no rfl rfl rfl rfl ?_
      refine g_no rfl rfl rfl rfl ?_
      refine g_no rfl rfl rfl rfl ?_
      first | refine g_pure (p_pickt rfl rfl) rfl ?_ | refine g_pure (p_pickf rfl rfl) rfl ?_
      refine g_nil ?_
      refine g_qt ?_
      refine g_ift rfl ?_
      refine g_seq ?_
      refine g_region ?_
      refine g_pure (p_assign rfl) rfl ?_
      refine g_pure (p_assign rfl) rfl ?_
      refine g_nil ?_
      refine g_qt ?_
      refine g_ret ?_
      refine g_qt_ret ?_
      have e : two1 S a b c d = (0, 14, S) := by unfold two1; rw [ea, eb]; rfl
      exact g_post (rs := [.tmp 10, .tmp 11]) rfl (.tmp rfl (.tmp rfl .nil)) ⟨by rw [e]; rfl, by rw [e]⟩ (by repeat' (first | exact Cover.nil | exact Take.here | apply Cover.cons | apply Take.there))
    | true =>
      refine g_yes rfl rfl ?_
      refine g_pure (p_move rfl) rfl ?_
      refine g_yes rfl rfl ?_
      refine g_pure (p_move rfl) rfl ?_
      refine g_yes rfl rfl ?_
      refine g_call (Hin := []) (Hr := ?hr3) (R := ?rr3) rfl rfl rfl ?hin3 ?hc3 ?hk3
      case hin3 => repeat' (first | exact Cover.nil | exact Take.here | apply Cover.cons | apply Take.there)
      case hc3 => intro ρ' hρ hR; exact rhas_ok m S c hR.1
      rintro _ _ ⟨rfl, rfl⟩
      refine g_yes rfl rfl ?_
      refine g_pure (p_not rfl) rfl ?_
      first | refine g_pure (p_pickt rfl rfl) rfl ?_ | refine g_pure (p_pickf rfl rfl) rfl ?_
      refine g_pure (p_move rfl) rfl ?_
      cases ec : hasB S c with
      | false =>
        refine g_no rfl rfl rfl rfl ?_
        refine g_no rfl rfl rfl rfl ?_
        refine g_no rfl rfl rfl rfl ?_
        refine g_no rfl rfl rfl rfl ?_
        first | refine g_pure (p_pickt rfl rfl) rfl ?_ | refine g_pure (p_pickf rfl rfl) rfl ?_
        refine g_nil ?_
        refine g_qt ?_
        refine g_ift rfl ?_
        refine g_seq ?_
        refine g_region ?_
        refine g_pure (p_assign rfl) rfl ?_
        refine g_pure (p_assign rfl) rfl ?_
        refine g_nil ?_
        refine g_qt ?_
        refine g_ret ?_
        refine g_qt_ret ?_
        have e : two1 S a b c d = (0, 14, S) := by unfold two1; rw [ea, eb, ec]; rfl
        exact g_post (rs := [.tmp 10, .tmp 11]) rfl (.tmp rfl (.tmp rfl .nil)) ⟨by rw [e]; rfl, by rw [e]⟩ (by repeat' (first | exact Cover.nil | exact Take.here | apply Cover.cons | apply Take.there))
      | true =>
        refine g_yes rfl rfl ?_
        refine g_pure (p_move rfl) rfl ?_
        refine g_yes rfl rfl ?_
        refine g_pure (p_move rfl) rfl ?_
        refine g_yes rfl rfl ?_
        refine g_call (Hin := []) (Hr := ?hr4) (R := ?rr4) rfl rfl rfl ?hin4 ?hc4 ?hk4
        case hin4 => repeat' (first | exact Cover.nil | exact Take.here | apply Cover.cons | apply Take.there)
        case hc4 => intro ρ' hρ hR; exact rhas_ok m S d hR.1
        rintro _ _ ⟨rfl, rfl⟩
        refine g_yes rfl rfl ?_
        refine g_pure (p_not rfl) rfl ?_
        first | refine g_pure (p_pickt rfl rfl) rfl ?_ | refine g_pure (p_pickf rfl rfl) rfl ?_
        refine g_nil ?_
        refine g_qt ?_
        cases ed : hasB S d with
        | false =>
          refine g_ift rfl ?_
          refine g_seq ?_
          refine g_region ?_
          refine g_pure (p_assign rfl) rfl ?_
          refine g_pure (p_assign rfl) rfl ?_
          refine g_nil ?_
          refine g_qt ?_
          refine g_ret ?_
          refine g_qt_ret ?_
          have e : two1 S a b c d = (0, 14, S) := by unfold two1; rw [ea, eb, ec, ed]; rfl
          exact g_post (rs := [.tmp 10, .tmp 11]) rfl (.tmp rfl (.tmp rfl .nil)) ⟨by rw [e]; rfl, by rw [e]⟩ (by repeat' (first | exact Cover.nil | exact Take.here | apply Cover.cons | apply Take.there))
        | true =>
          refine g_iff rfl ?_
          have et : two1 S a b c d = two S a b c d := by unfold two1; rw [ea, eb, ec, ed]; rfl
          have ha := hasB_iff.1 ea
          have hb := hasB_iff.1 eb
          have hc := hasB_iff.1 ec
          have hd := hasB_iff.1 ed
          refine g_open .here ?_
          rintro _ ⟨aa, ca, ab, cb, ai, ci, rfl, h0, _⟩
          refine g_skip ?_
          refine g_qt ?_
          refine g_seq ?_
          refine g_region ?_
          refine g_pure (p_move rfl) rfl ?_
          refine g_pure (p_nilCheck rfl) rfl ?_
          refine g_pure (p_fieldAddr rfl) rfl ?_
          refine g_pure (p_load (by rfl) rfl (by first | (apply Has.own; (repeat' (first | exact Take.here | apply Take.there)); done) | exact Has.ro (by assumption)) (by first | rfl | assumption)) rfl ?_
          refine g_pure (p_len (by rfl) rfl) rfl ?_
          refine rf_close (m := m) h0 hl (by repeat' (first | exact Cover.nil | exact Take.here | apply Cover.cons | apply Take.there)) rfl rfl rfl rfl rfl rfl ?_
          refine g_pure (p_assign rfl) rfl ?_
          refine g_nil ?_
          refine g_qt ?_
          refine g_seq ?_
          refine g_region ?_
          refine g_pure (p_move rfl) rfl ?_
          refine g_pure (p_move rfl) rfl ?_
          refine g_pure (p_move rfl) rfl ?_
          refine g_call (Hin := ?hi5) (Hr := ?hr5) (R := ?rr5) rfl rfl rfl ?hin5 ?hc5 ?hk5
          case hc5 => intro ρ' hρ hR; exact rand0_ok m S a b hl ha hb
          case hin5 => repeat' (first | exact Cover.nil | exact Take.here | apply Cover.cons | apply Take.there)
          rintro _ _ ⟨rfl, rfl⟩
          refine g_pure (p_move rfl) rfl ?_
          refine g_pure (p_extract rfl rfl) rfl ?_
          refine g_pure (p_extract rfl rfl) rfl ?_
          refine g_pure (p_assign rfl) rfl ?_
          refine g_pure (p_assign rfl) rfl ?_
          refine g_nil ?_
          refine g_qt ?_
          refine g_seq ?_
          refine g_seq ?_
          refine g_region ?_
          refine g_pure (p_move rfl) rfl ?_
          refine g_pure (p_neq rfl rfl) rfl ?_
          refine g_nil ?_
          refine g_qt ?_
          refine g_ifnd rfl (fun h1 => ?_) (fun h1 => ?_)
          · refine g_seq ?_
            refine g_region ?_
            refine g_pure (p_move rfl) rfl ?_
            refine g_pure (p_assign rfl) rfl ?_
            refine g_pure (p_assign rfl) rfl ?_
            refine g_nil ?_
            refine g_qt ?_
            refine g_ret ?_
            refine g_qt_ret ?_
            have e : two S a b c d = (0, (and0 S a b).2.1, (and0 S a b).2.2) := by unfold two; exact if_pos h1
            rw [e] at et
            exact g_post (rs := [.tmp 10, .tmp 11]) rfl (.tmp rfl (.tmp rfl .nil)) ⟨by rw [et]; rfl, by rw [et]⟩ (by repeat' (first | exact Cover.nil | exact Take.here | apply Cover.cons | apply Take.there))
          · refine g_skip ?_
            refine g_qt ?_
            refine g_seq ?_
            refine g_region ?_
            refine g_pure (p_move rfl) rfl ?_
            refine g_pure (p_move rfl) rfl ?_
            refine g_pure (p_move rfl) rfl ?_
            have x1 := (Ext.refl S).and0 ha hb
            have hr1 := and0_has ha hb h1
            have e1 : two1 S a b c d = (let q := and0 (and0 S a b).2.2 c d; if q.2.1 ≠ 0 then (0, q.2.1, S) else let z := and0 q.2.2 (nt (and0 S a b).1) (nt q.1); if z.2.1 ≠ 0 then (0, z.2.1, S) else (nt z.1, 0, z.2.2)) := by
              rw [et]; unfold two; exact if_neg (by simp only [ne_eq, Decidable.not_not]; exact h1)
            refine rf_len .here fun _ hl1 => ?_
            generalize and0 S a b = r1 at *
            obtain ⟨l1, f1, S1⟩ := r1
            simp only at h1 x1 hr1 e1 hl1
            subst h1
            refine g_call (Hin := ?hi6) (Hr := ?hr6) (R := ?rr6) rfl rfl rfl ?hin6 ?hc6 ?hk6
            case hc6 => intro ρ' hρ hR; exact rand0_ok m S1 c d hl1 (x1.has hc) (x1.has hd)
            case hin6 => repeat' (first | exact Cover.nil | exact Take.here | apply Cover.cons | apply Take.there)
            rintro _ _ ⟨rfl, rfl⟩
            refine g_pure (p_move rfl) rfl ?_
            refine g_pure (p_extract rfl rfl) rfl ?_
            refine g_pure (p_extract rfl rfl) rfl ?_
            refine g_pure (p_assign rfl) rfl ?_
            refine g_pure (p_assign rfl) rfl ?_
            refine g_nil ?_
            refine g_qt ?_
            refine g_seq ?_
            refine g_seq ?_
            refine g_region ?_
            refine g_pure (p_move rfl) rfl ?_
            refine g_pure (p_neq rfl rfl) rfl ?_
            refine g_nil ?_
            refine g_qt ?_
            have x2 := x1.and0 (x1.has hc) (x1.has hd)
            have x12 := (Ext.refl S1).and0 (x1.has hc) (x1.has hd)
            refine g_ifnd rfl (fun h2 => ?_) (fun h2 => ?_)
            · refine g_seq ?_
              refine g_region ?_
              refine g_pure (p_move rfl) rfl ?_
              refine g_pure (p_move rfl) rfl ?_
              have x2c := x2.cut
              refine g_call (Hin := ?hi7) (Hr := ?hr7) (R := ?rr7) rfl rfl rfl ?hin7 ?hc7 ?hk7
              case hc7 => intro ρ' hρ hR; exact rcut_ok m _ S.length hz x2c.2.2
              case hin7 => repeat' (first | exact Cover.nil | exact Take.here | apply Cover.cons | apply Take.there)
              rintro _ _ ⟨rfl, rfl⟩
              refine g_nil ?_
              refine g_qt ?_
              refine g_seq ?_
              refine g_region ?_
              refine g_pure (p_move rfl) rfl ?_
              refine g_pure (p_assign rfl) rfl ?_
              refine g_pure (p_assign rfl) rfl ?_
              refine g_nil ?_
              refine g_qt ?_
              refine g_ret ?_
              refine g_qt_ret ?_
              rw [if_pos h2] at e1
              rw [x2c.1]
              exact g_post (rs := [.tmp 10, .tmp 11]) rfl (.tmp rfl (.tmp rfl .nil)) ⟨by rw [e1]; rfl, by rw [e1]⟩ (by repeat' (first | exact Cover.nil | exact Take.here | apply Cover.cons | apply Take.there))
            · refine g_skip ?_
              refine g_qt ?_
              refine g_seq ?_
              refine g_region ?_
              refine g_pure (p_move rfl) rfl ?_
              refine g_pure (p_move rfl) rfl ?_
              refine g_pure (p_move rfl) rfl ?_
              have hr2 := and0_has (x1.has hc) (x1.has hd) h2
              refine rf_len .here fun _ hl2 => ?_
              generalize and0 S1 c d = r2 at *
              obtain ⟨l2, f2, S2⟩ := r2
              simp only at h2 x2 x12 hr2 e1 hl2
              subst h2
              simp only [ne_eq, not_true_eq_false, if_false] at e1
              have hh1 := nt_has (x12.has hr1)
              have hh2 := nt_has hr2
              have x3 := x2.and0 hh1 hh2
              have eo : orX S2 l1 l2 = (let r := and0 S2 (nt l1) (nt l2); if r.2.1 = 0 then (nt r.1, 0, r.2.2) else (0, r.2.1, r.2.2)) := rfl
              refine g_call (Hin := ?hi8) (Hr := ?hr8) (R := ?rr8) rfl rfl rfl ?hin8 ?hc8 ?hk8
              case hc8 => intro ρ' hρ hR; exact ror0_ok m S2 l1 l2 hl2 (x12.has hr1) hr2
              case hin8 => repeat' (first | exact Cover.nil | exact Take.here | apply Cover.cons | apply Take.there)
              rintro _ _ ⟨rfl, rfl⟩
              refine g_pure (p_move rfl) rfl ?_
              refine g_pure (p_extract rfl rfl) rfl ?_
              refine g_pure (p_extract rfl rfl) rfl ?_
              refine g_pure (p_assign rfl) rfl ?_
              refine g_pure (p_assign rfl) rfl ?_
              refine g_nil ?_
              refine g_qt ?_
              refine g_seq ?_
              refine g_seq ?_
              refine g_region ?_
              refine g_pure (p_move rfl) rfl ?_
              refine g_pure (p_neq rfl rfl) rfl ?_
              refine g_nil ?_
              refine g_qt ?_
              by_cases h3 : (and0 S2 (nt l1) (nt l2)).2.1 = 0
              · rw [if_pos h3] at eo
                rw [if_neg (fun h => h h3)] at e1
                rw [eo]
                refine g_iff rfl ?_
                refine g_skip ?_
                refine g_qt ?_
                refine g_seq ?_
                refine g_region ?_
                refine g_pure (p_move rfl) rfl ?_
                refine g_pure (p_assign rfl) rfl ?_
                refine g_pure (p_assign rfl) rfl ?_
                refine g_nil ?_
                refine g_qt ?_
                refine g_ret ?_
                exact g_post (rs := [.tmp 10, .tmp 11]) rfl (.tmp rfl (.tmp rfl .nil)) ⟨by rw [e1]; rfl, by rw [e1]⟩ (by repeat' (first | exact Cover.nil | exact Take.here | apply Cover.cons | apply Take.there))
              · rw [if_neg h3] at eo
                rw [if_pos h3] at e1
                rw [eo]
                refine g_ifnd rfl (fun h4 => ?_) (fun h4 => ?_)
                · refine g_seq ?_
                  refine g_region ?_
                  refine g_pure (p_move rfl) rfl ?_
                  refine g_pure (p_move rfl) rfl ?_
                  have x3c := x3.cut
                  refine g_call (Hin := ?hi9) (Hr := ?hr9) (R := ?rr9) rfl rfl rfl ?hin9 ?hc9 ?hk9
                  case hc9 => intro ρ' hρ hR; exact rcut_ok m _ S.length hz x3c.2.2
                  case hin9 => repeat' (first | exact Cover.nil | exact Take.here | apply Cover.cons | apply Take.there)
                  rintro _ _ ⟨rfl, rfl⟩
                  refine g_nil ?_
                  refine g_qt ?_
                  refine g_seq ?_
                  refine g_region ?_
                  refine g_pure (p_move rfl) rfl ?_
                  refine g_pure (p_assign rfl) rfl ?_
                  refine g_pure (p_assign rfl) rfl ?_
                  refine g_nil ?_
                  refine g_qt ?_
                  refine g_ret ?_
                  refine g_qt_ret ?_
                  rw [x3c.1]
                  exact g_post (rs := [.tmp 10, .tmp 11]) rfl (.tmp rfl (.tmp rfl .nil)) ⟨by rw [e1]; rfl, by rw [e1]⟩ (by repeat' (first | exact Cover.nil | exact Take.here | apply Cover.cons | apply Take.there))
                · exact absurd h4 h3

theorem rxor_ok {ρ : Nat → Obj → Prop} (m : Nat) (S : St) (a b : Int) (ha : I64 a) (hb : I64 b) : Con Try.prog ρ 38 #[.pointer (some ⟨m, 0, none⟩), .int .i64 a, .int .i64 b] [Rf m S]
    (fun v H => v = .tuple #[.int .i64 (xor1 S a b).1, .int .i64 (xor1 S a b).2.1] ∧ H = [Rf m (xor1 S a b).2.2]) := by
  have e : two1 S a (nt b) (nt a) b = xor1 S a b := by
    unfold two1 xor1; rw [hasB_nt, hasB_nt]
    cases hasB S a <;> cases hasB S b <;> rfl
  refine con_intro Try.func38 Try.call38 rfl Try.ntmps38 rfl (L := [(0, _), (1, _), (2, _)]) rfl fun w hh => ?_
  refine g_seq ?_
  refine g_region ?_
  refine g_pure (p_assign rfl) rfl ?_
  refine g_pure (p_assign rfl) rfl ?_
  refine g_nil ?_
  refine g_qt ?_
  refine g_seq ?_
  refine g_region ?_
  refine g_pure (p_move rfl) rfl ?_
  refine g_pure (p_move rfl) rfl ?_
  refine g_pure (p_move rfl) rfl ?_
  refine g_call (Hin := []) (Hr := ?hr10) (R := ?rr10) rfl rfl rfl ?hin10 ?hc10 ?hk10
  case hin10 => repeat' (first | exact Cover.nil | exact Take.here | apply Cover.cons | apply Take.there)
  case hc10 => intro ρ' hρ hR; exact rnot_ok b hb
  rintro _ _ ⟨rfl, rfl⟩
  refine g_pure (p_move rfl) rfl ?_
  refine g_call (Hin := []) (Hr := ?hr11) (R := ?rr11) rfl rfl rfl ?hin11 ?hc11 ?hk11
  case hin11 => repeat' (first | exact Cover.nil | exact Take.here | apply Cover.cons | apply Take.there)
  case hc11 => intro ρ' hρ hR; exact rnot_ok a ha
  rintro _ _ ⟨rfl, rfl⟩
  refine g_pure (p_move rfl) rfl ?_
  refine g_call (Hin := ?hi12) (Hr := ?hr12) (R := ?rr12) rfl rfl rfl ?hin12 ?hc12 ?hk12
  case hc12 => intro ρ' hρ hR; exact rtwo_ok m S a (nt b) (nt a) b
  case hin12 => repeat' (first | exact Cover.nil | exact Take.here | apply Cover.cons | apply Take.there)
  rintro _ _ ⟨rfl, rfl⟩
  refine g_pure (p_extract rfl rfl) rfl ?_
  refine g_pure (p_extract rfl rfl) rfl ?_
  refine g_pure (p_assign rfl) rfl ?_
  refine g_pure (p_assign rfl) rfl ?_
  refine g_nil ?_
  refine g_qt ?_
  refine g_ret ?_
  exact g_post (rs := [.tmp 6, .tmp 7]) rfl (.tmp rfl (.tmp rfl .nil)) ⟨by rw [← e]; rfl, by rw [← e]⟩ (by repeat' (first | exact Cover.nil | exact Take.here | apply Cover.cons | apply Take.there))

theorem rmux_ok {ρ : Nat → Obj → Prop} (m : Nat) (S : St) (c a b : Int) (hc : I64 c) : Con Try.prog ρ 39 #[.pointer (some ⟨m, 0, none⟩), .int .i64 c, .int .i64 a, .int .i64 b] [Rf m S]
    (fun v H => v = .tuple #[.int .i64 (mux1 S c a b).1, .int .i64 (mux1 S c a b).2.1] ∧ H = [Rf m (mux1 S c a b).2.2]) := by
  have e : two1 S c a (nt c) b = mux1 S c a b := by
    unfold two1 mux1; rw [hasB_nt]
    cases hasB S c <;> cases hasB S a <;> cases hasB S b <;> rfl
  refine con_intro Try.func39 Try.call39 rfl Try.ntmps39 rfl (L := [(0, _), (1, _), (2, _), (3, _)]) rfl fun w hh => ?_
  refine g_seq ?_
  refine g_region ?_
  refine g_pure (p_assign rfl) rfl ?_
  refine g_pure (p_assign rfl) rfl ?_
  refine g_nil ?_
  refine g_qt ?_
  refine g_seq ?_
  refine g_region ?_
  refine g_pure (p_move rfl) rfl ?_
  refine g_pure (p_move rfl) rfl ?_
  refine g_pure (p_move rfl) rfl ?_
  refine g_pure (p_move rfl) rfl ?_
  refine g_call (Hin := []) (Hr := ?hr13) (R := ?rr13) rfl rfl rfl ?hin13 ?hc13 ?hk13
  case hin13 => repeat' (first | exact Cover.nil | exact Take.here | apply Cover.cons | apply Take.there)
  case hc13 => intro ρ' hρ hR; exact rnot_ok c hc
  rintro _ _ ⟨rfl, rfl⟩
  refine g_pure (p_move rfl) rfl ?_
  refine g_call (Hin := ?hi14) (Hr := ?hr14) (R := ?rr14) rfl rfl rfl ?hin14 ?hc14 ?hk14
  case hc14 => intro ρ' hρ hR; exact rtwo_ok m S c a (nt c) b
  case hin14 => repeat' (first | exact Cover.nil | exact Take.here | apply Cover.cons | apply Take.there)
  rintro _ _ ⟨rfl, rfl⟩
  refine g_pure (p_extract rfl rfl) rfl ?_
  refine g_pure (p_extract rfl rfl) rfl ?_
  refine g_pure (p_assign rfl) rfl ?_
  refine g_pure (p_assign rfl) rfl ?_
  refine g_nil ?_
  refine g_qt ?_
  refine g_ret ?_
  exact g_post (rs := [.tmp 8, .tmp 9]) rfl (.tmp rfl (.tmp rfl .nil)) ⟨by rw [← e]; rfl, by rw [← e]⟩ (by repeat' (first | exact Cover.nil | exact Take.here | apply Cover.cons | apply Take.there))
end Go.Proofs.Ytmdmffpfnijahaa
