/- BlastValid. Conditions: none. -/
import Derived.Test.YtkebblmmgcgjkaaK9
namespace Go.Proofs.Ytkebblmmgcgjkaa
set_option maxRecDepth 8000
set_option linter.unusedVariables false
set_option linter.unusedSimpArgs false
set_option linter.unusedSectionVars false
open Go Go.Z Go.Z.Val Go.Z.Aig Go.Z.Bit

theorem den_from {m k : Nat} (hm : m + k ≤ 1000) : DenL (S0 (m + k)) (inFrom m k) (fun inp => (List.range k).map fun i => inp.getD (m + i) false) := by
  refine ⟨fun l hl => ?_, fun inp => ?_⟩
  · obtain ⟨i, hi, rfl⟩ := List.mem_map.1 hl
    exact (den_in hm (show m + i < m + k by have := List.mem_range.1 hi; omega)).1
  · unfold inFrom
    rw [List.map_map]
    refine List.map_congr_left fun i hi => ?_
    exact (den_in hm (show m + i < m + k by have := List.mem_range.1 hi; omega)).2 inp
theorem from_bits (bs : List Bool) : ((List.range bs.length).map fun i => (false :: bs).getD (1 + i) false) = bs := by
  apply List.ext_getElem
  · simp
  · intro i h1 h2
    rw [List.getElem_map, List.getElem_range, Nat.add_comm, List.getD_cons_succ, List.getD_eq_getElem?_getD, List.getElem?_eq_getElem h2]; rfl

set_option maxHeartbeats 4000000 in
theorem bvalidlaw_ok {ρ : Nat → Obj → Prop} {ea : Option Addr} {ec : Nat} {es : List En} (h : EnR ρ ea es) (hl : es.length ≤ maxLen) (t bits : Int) (ht : I64 t) (hbits : 0 ≤ bits ∧ bits ≤ 65535) (short : Bool) :
    Con Try.prog ρ 7 #[.slice ea es.length ec, .int .i64 t, .int .u16 bits, .bool short] [] (fun u H => u = .bool true) := by
  refine con_intro Try.func7 Try.call7 rfl Try.ntmps7 rfl (L := [(0, _), (1, _), (2, _), (3, _)]) rfl fun w hh => ?_
  refine g_seq ?_
  refine g_region ?_
  refine g_pure (p_assign rfl) rfl ?_
  refine g_nil ?_
  refine g_qt ?_
  refine g_seq ?_
  refine g_seq ?_
  refine g_region ?_
  refine g_pure (p_move rfl) rfl ?_
  refine g_call (Hin := []) (Hr := ?hr1) (R := ?rr1) rfl rfl rfl ?hin1 ?hc1 ?hk1
  case hin1 => repeat' (first | exact Cover.nil | exact Take.here | apply Cover.cons | apply Take.there)
  case hc1 => intro ρ' hρ hR; exact few_ok (h.mono hρ) hl
  rintro _ _ ⟨⟨fb, rfl⟩, rfl⟩
  refine g_pure (p_not rfl) rfl ?_
  refine g_nil ?_
  refine g_qt ?_
  cases fb with
  | false =>
    refine g_ift rfl ?_
    refine g_seq ?_
    refine g_region ?_
    refine g_call (Hin := []) (Hr := ?hr2) (R := ?rr2) rfl rfl rfl ?hin2 ?hc2 ?hk2
    case hin2 => repeat' (first | exact Cover.nil | exact Take.here | apply Cover.cons | apply Take.there)
    case hc2 => intro ρ' hρ hR; exact blives_ok
    rintro _ _ ⟨rfl, rfl⟩
    refine g_pure (p_assign rfl) rfl ?_
    refine g_nil ?_
    refine g_qt ?_
    refine g_ret ?_
    refine g_qt_ret ?_
    exact g_post (Ho := []) (rs := [.tmp 8]) rfl (.tmp rfl .nil) rfl .nil
  | true =>
    refine g_iff rfl ?_
    refine g_skip ?_
    refine g_qt ?_
    refine g_seq ?_
    refine g_region ?_
    refine g_call (Hin := []) (Hr := ?hr3) (R := ?rr3) rfl rfl rfl ?hin3 ?hc3 ?hk3
    case hin3 => repeat' (first | exact Cover.nil | exact Take.here | apply Cover.cons | apply Take.there)
    case hc3 => intro ρ' hρ hR; exact inputs38_ok 1 (by omega)
    rintro _ _ ⟨p, ia, ic, rfl, rfl⟩
    refine g_pure (p_move rfl) rfl ?_
    refine g_pure (p_extract rfl rfl) rfl ?_
    refine g_pure (p_extract rfl rfl) rfl ?_
    refine g_pure (p_assign rfl) rfl ?_
    refine g_pure (p_assign rfl) rfl ?_
    refine g_nil ?_
    refine g_qt ?_
    refine g_seq ?_
    refine g_seq ?_
    refine g_region ?_
    refine g_pure (p_move rfl) rfl ?_
    refine g_pure (p_eqnil (by rfl) rfl rfl) rfl ?_
    refine g_nil ?_
    refine g_qt ?_
    refine g_iff rfl ?_
    refine g_skip ?_
    refine g_qt ?_
    refine g_seq ?_
    refine g_region ?_
    refine g_pure (p_move rfl) rfl ?_
    refine g_pure (p_move rfl) rfl ?_
    refine g_call (Hin := []) (Hr := ?hr4) (R := ?rr4) rfl rfl rfl ?hin4 ?hc4 ?hk4
    case hin4 => repeat' (first | exact Cover.nil | exact Take.here | apply Cover.cons | apply Take.there)
    case hc4 => intro ρ' hρ hR; exact dwidth_ok (h.mono hρ) hl t ht
    rintro _ _ ⟨rfl, rfl⟩
    refine g_pure (p_assign rfl) rfl ?_
    refine g_nil ?_
    refine g_qt ?_
    refine g_seq ?_
    refine g_region ?_
    refine g_pure (p_move rfl) rfl ?_
    refine g_pure (p_move rfl) rfl ?_
    refine g_pure (p_move rfl) rfl ?_
    have hwl := widthN_le es t
    obtain ⟨w0, hw0⟩ : ∃ w0, widthN es t = w0 := ⟨_, rfl⟩
    rw [hw0] at hwl ⊢
    by_cases h0 : w0 = 0
    · subst h0
      refine g_call (Hin := [Gr p (S0 1)]) (Hr := ?hr5) (R := ?rr5) rfl rfl rfl ?hin5 ?hc5 ?hk5
      case hin5 => repeat' (first | exact Cover.nil | exact Take.here | apply Cover.cons | apply Take.there)
      case hc5 => intro ρ' hρ hR; exact binput_no p 1 (h.mono hρ) hl t ht hw0
      rintro _ _ ⟨rfl, rfl⟩
      refine g_pure (p_move rfl) rfl ?_
      refine g_pure (p_extract rfl rfl) rfl ?_
      refine g_pure (p_extract rfl rfl) rfl ?_
      refine g_pure (p_assign rfl) rfl ?_
      refine g_pure (p_assign rfl) rfl ?_
      refine g_nil ?_
      refine g_qt ?_
      refine g_seq ?_
      refine g_seq ?_
      refine g_region ?_
      refine g_pure (p_move rfl) rfl ?_
      refine g_pure (p_eqlT rfl rfl rfl) rfl ?_
      refine g_nil ?_
      refine g_qt ?_
      refine g_ift rfl ?_
      refine g_seq ?_
      refine g_region ?_
      refine g_pure (p_move rfl) rfl ?_
      refine g_pure (p_eqlT rfl rfl rfl) rfl ?_
      refine g_pure (p_move rfl) rfl ?_
      refine g_yes rfl rfl ?_
      refine g_pure (p_move rfl) rfl ?_
      refine g_yes rfl rfl ?_
      refine g_pure (p_len (by rfl) rfl) rfl ?_
      refine g_yes rfl rfl ?_
      refine g_pure (p_eqlT rfl rfl rfl) rfl ?_
      first | refine g_pure (p_pickt rfl rfl) rfl ?_ | refine g_pure (p_pickf rfl rfl) rfl ?_
      refine g_pure (p_move rfl) rfl ?_
      refine g_yes rfl rfl ?_
      refine g_pure (p_move rfl) rfl ?_
      refine g_yes rfl rfl ?_
      refine g_call (Hin := []) (Hr := ?hr6) (R := ?rr6) rfl rfl rfl ?hin6 ?hc6 ?hk6
      case hin6 => repeat' (first | exact Cover.nil | exact Take.here | apply Cover.cons | apply Take.there)
      case hc6 => intro ρ' hρ hR; exact glen_ok p (S0 1) (Take.ro (A := Gr p (S0 1)) (by repeat' (first | exact Take.here | apply Take.there)) hR)
      rintro _ _ ⟨rfl, rfl⟩
      refine g_yes rfl rfl ?_
      refine g_pure (p_eqlT rfl rfl rfl) rfl ?_
      first | refine g_pure (p_pickt rfl rfl) rfl ?_ | refine g_pure (p_pickf rfl rfl) rfl ?_
      refine g_pure (p_move rfl) rfl ?_
      refine g_yes rfl rfl ?_
      refine g_call (Hin := []) (Hr := ?hr7) (R := ?rr7) rfl rfl rfl ?hin7 ?hc7 ?hk7
      case hin7 => repeat' (first | exact Cover.nil | exact Take.here | apply Cover.cons | apply Take.there)
      case hc7 => intro ρ' hρ hR; exact blives_ok
      rintro _ _ ⟨rfl, rfl⟩
      first | refine g_pure (p_pickt rfl rfl) rfl ?_ | refine g_pure (p_pickf rfl rfl) rfl ?_
      refine g_pure (p_assign rfl) rfl ?_
      refine g_nil ?_
      refine g_qt ?_
      refine g_ret ?_
      refine g_qt_ret ?_
      exact g_post (Ho := []) (rs := [.tmp 8]) rfl (.tmp rfl .nil) rfl .nil
    · refine g_call (Hin := [Gr p (S0 1)]) (Hr := ?hr8) (R := ?rr8) rfl rfl rfl ?hin8 ?hc8 ?hk8
      case hin8 => repeat' (first | exact Cover.nil | exact Take.here | apply Cover.cons | apply Take.there)
      case hc8 => intro ρ' hρ hR; exact binput_ok p 1 (by omega) (h.mono hρ) hl t ht hw0 h0
      rintro _ _ ⟨la, lc, rfl, rfl⟩
      have hS : (S0 (1 + w0)).length = 1 + w0 + 1 := S0_len _
      have hSw := S0_wf (1 + w0) (by omega)
      have hfl := inFrom_len 1 w0
      have hden := den_from (m := 1) (k := w0) (by omega)
      refine g_pure (p_move rfl) rfl ?_
      refine g_pure (p_extract rfl rfl) rfl ?_
      refine g_pure (p_extract rfl rfl) rfl ?_
      refine g_pure (p_assign rfl) rfl ?_
      refine g_pure (p_assign rfl) rfl ?_
      refine g_nil ?_
      refine g_qt ?_
      refine g_seq ?_
      refine g_seq ?_
      refine g_region ?_
      refine g_pure (p_move rfl) rfl ?_
      refine g_pure (p_eqlF rfl rfl (by omega)) rfl ?_
      refine g_nil ?_
      refine g_qt ?_
      refine g_iff rfl ?_
      refine g_skip ?_
      refine g_qt ?_
      refine g_seq ?_
      refine g_seq ?_
      refine g_region ?_
      refine g_pure (p_move rfl) rfl ?_
      refine g_pure (p_neqF rfl rfl rfl) rfl ?_
      refine g_pure (p_move rfl) rfl ?_
      refine g_yes rfl rfl ?_
      refine g_pure (p_move rfl) rfl ?_
      refine g_yes rfl rfl ?_
      refine g_pure (p_len (by rfl) rfl) rfl ?_
      refine g_yes rfl rfl ?_
      refine g_pure (p_move rfl) rfl ?_
      refine g_yes rfl rfl ?_
      refine g_pure (p_neqF rfl rfl rfl) rfl ?_
      first | refine g_pure (p_pickt rfl rfl) rfl ?_ | refine g_pure (p_pickf rfl rfl) rfl ?_
      refine g_pure (p_move rfl) rfl ?_
      refine g_yes rfl rfl ?_
      refine g_pure (p_move rfl) rfl ?_
      refine g_yes rfl rfl ?_
      refine g_call (Hin := []) (Hr := ?hr9) (R := ?rr9) rfl rfl rfl ?hin9 ?hc9 ?hk9
      case hin9 => repeat' (first | exact Cover.nil | exact Take.here | apply Cover.cons | apply Take.there)
      case hc9 => intro ρ' hρ hR; exact glen_ok p (S0 (1 + w0)) (Take.ro (A := Gr p (S0 (1 + w0))) (by repeat' (first | exact Take.here | apply Take.there)) hR)
      rintro _ _ ⟨rfl, rfl⟩
      refine g_yes rfl rfl ?_
      refine g_pure (p_move rfl) rfl ?_
      refine g_yes rfl rfl ?_
      first | refine g_pure (p_addi rfl rfl (by omega)) rfl ?_ | refine g_pure (p_add rfl rfl) rfl ?_
      refine g_yes rfl rfl ?_
      refine g_pure (p_neqF rfl rfl (by omega)) rfl ?_
      first | refine g_pure (p_pickt rfl rfl) rfl ?_ | refine g_pure (p_pickf rfl rfl) rfl ?_
      refine g_nil ?_
      refine g_qt ?_
      refine g_iff rfl ?_
      refine g_skip ?_
      refine g_qt ?_
      refine g_seq ?_
      refine g_seq ?_
      refine g_region ?_
      refine g_pure (p_assign rfl) rfl ?_
      refine g_nil ?_
      refine g_qt ?_
      refine g_block ?_
      refine g_loop (fun k : Nat => [(0, .slice ea es.length ec), (1, .int .i64 t), (2, .int .u16 bits), (3, .bool short), (9, .pointer (some ⟨p, 0, none⟩)), (11, .int .i64 w0), (12, .slice la w0 lc), (14, .int .i64 k)])
        (fun k => [OwnSl 27 1 la w0 lc ((inFrom 1 w0).map encI), Gr p (S0 (1 + w0))]) (fun k => k ≤ w0) (fun k => w0 - k) 0 (Nat.zero_le _) (by (repeat (first | exact trivial | refine ⟨by rfl, ?_⟩)); done) (by repeat' (first | exact Cover.nil | exact Take.here | apply Cover.cons | apply Take.there)) ?_
      rintro k hk
      refine g_seq ?_
      refine g_seq ?_
      refine g_region ?_
      refine g_pure (p_move rfl) rfl ?_
      refine g_pure (p_move rfl) rfl ?_
      refine g_pure (p_lss rfl rfl) rfl ?_
      refine g_nil ?_
      refine g_qt ?_
      refine g_ifd rfl (fun q => ?_) (fun q => ?_)
      · refine g_own (e := 27) (a1 := la) (k := w0) (cap := lc) (xs := (inFrom 1 w0).map encI) (by repeat' (first | exact Take.here | apply Take.there)) (fun _ h2 _ _ => absurd h2 (by omega)) ?_
        rintro gx curx rfl x1 x2 x3 x4 x5
        have hx : curx[0 + (k : Int).toNat * 1]? = some (.int .i64 (2 * (((1 + k : Nat) : Int) + 1))) := own_at (k := k) x4 rfl (by unfold inFrom; rw [List.getElem?_map, List.getElem?_map, List.getElem?_range (by omega)]; rfl)
        refine g_skip ?_
        refine g_qt ?_
        refine g_seq ?_
        refine g_block ?_
        refine g_seq ?_
        refine g_region ?_
        refine g_pure (p_move rfl) rfl ?_
        refine g_pure (p_move rfl) rfl ?_
        refine g_pure (p_indexAddr rfl rfl (by omega) (fun _ => rfl)) rfl ?_
        refine g_pure (p_load (by rfl) rfl (Has.own (by repeat' (first | exact Take.here | apply Take.there))) hx) rfl ?_
        refine g_pure (p_move rfl) rfl ?_
        first | refine g_pure (p_addi rfl rfl (by omega)) rfl ?_ | refine g_pure (p_add rfl rfl) rfl ?_
        first | refine g_pure (p_muli rfl rfl (by omega)) rfl ?_ | refine g_pure (p_mul rfl rfl) rfl ?_
        refine g_pure (p_neqF rfl rfl (by omega)) rfl ?_
        refine g_nil ?_
        refine g_qt ?_
        refine g_iff rfl ?_
        refine g_skip ?_
        refine g_qb ?_
        refine g_qt ?_
        refine g_region ?_
        refine g_pure (p_move rfl) rfl ?_
        first | refine g_pure (p_addi rfl rfl (by omega)) rfl ?_ | refine g_pure (p_add rfl rfl) rfl ?_
        refine g_pure (p_assign rfl) rfl ?_
        refine g_nil ?_
        refine g_qn ?_
        refine g_fold (e := 27) (g := gx) (k := w0) (cap := lc) (size := 1) (xs := (inFrom 1 w0).map encI) (by repeat' (first | exact Take.here | apply Take.there)) x1 x2 x3 x4 ?_
        exact g_next (k + 1) (by (repeat (first | exact trivial | refine ⟨by rfl, ?_⟩)); done) (by repeat' (first | exact Cover.nil | exact Take.here | apply Cover.cons | apply Take.there)) (by omega) (by omega)
      · refine g_exit ?_
        refine g_qt_exit ?_
        refine g_qn_exit ?_
        refine g_qb_exit ?_
        refine g_qt ?_
        refine g_seq ?_
        refine g_seq ?_
        refine g_region ?_
        refine g_pure (p_move rfl) rfl ?_
        refine g_nil ?_
        refine g_qt ?_
        cases short with
        | true =>
          refine g_ift rfl ?_
          refine g_seq ?_
          refine g_region ?_
          refine g_pure (p_move rfl) rfl ?_
          refine g_pure (p_move rfl) rfl ?_
          refine g_pure (p_move rfl) rfl ?_
          refine g_pure (p_move rfl) rfl ?_
          refine g_pure (p_slicel rfl rfl (by omega)) rfl ?_
          refine g_call (Hin := [Gr p (S0 (1 + w0))]) (Hr := ?hr10) (R := ?rr10) rfl rfl rfl ?hin10 ?hc10 ?hk10
          case hin10 => repeat' (first | exact Cover.nil | exact Take.here | apply Cover.cons | apply Take.there)
          case hc10 => intro ρ' hρ hR; exact bvalid_match p (1 + w0) (h.mono hρ) hl t ht (by omega) (by rw [hw0]; show w0 - 1 ≠ w0; omega)
          rintro _ _ ⟨rfl, rfl⟩
          refine g_pure (p_move rfl) rfl ?_
          refine g_pure (p_extract rfl rfl) rfl ?_
          refine g_pure (p_extract rfl rfl) rfl ?_
          refine g_pure (p_assign rfl) rfl ?_
          refine g_pure (p_assign rfl) rfl ?_
          refine g_nil ?_
          refine g_qt ?_
          refine g_seq ?_
          refine g_region ?_
          refine g_pure (p_move rfl) rfl ?_
          refine g_pure (p_eqlT rfl rfl rfl) rfl ?_
          refine g_pure (p_move rfl) rfl ?_
          refine g_yes rfl rfl ?_
          refine g_pure (p_move rfl) rfl ?_
          refine g_yes rfl rfl ?_
          refine g_call (Hin := []) (Hr := ?hr11) (R := ?rr11) rfl rfl rfl ?hin11 ?hc11 ?hk11
          case hin11 => repeat' (first | exact Cover.nil | exact Take.here | apply Cover.cons | apply Take.there)
          case hc11 => intro ρ' hρ hR; exact glen_ok p (S0 (1 + w0)) (Take.ro (A := Gr p (S0 (1 + w0))) (by repeat' (first | exact Take.here | apply Take.there)) hR)
          rintro _ _ ⟨rfl, rfl⟩
          refine g_yes rfl rfl ?_
          refine g_pure (p_move rfl) rfl ?_
          refine g_yes rfl rfl ?_
          first | refine g_pure (p_addi rfl rfl (by omega)) rfl ?_ | refine g_pure (p_add rfl rfl) rfl ?_
          refine g_yes rfl rfl ?_
          refine g_pure (p_eqlT rfl rfl (by omega)) rfl ?_
          first | refine g_pure (p_pickt rfl rfl) rfl ?_ | refine g_pure (p_pickf rfl rfl) rfl ?_
          refine g_pure (p_move rfl) rfl ?_
          refine g_yes rfl rfl ?_
          refine g_call (Hin := []) (Hr := ?hr12) (R := ?rr12) rfl rfl rfl ?hin12 ?hc12 ?hk12
          case hin12 => repeat' (first | exact Cover.nil | exact Take.here | apply Cover.cons | apply Take.there)
          case hc12 => intro ρ' hρ hR; exact blives_ok
          rintro _ _ ⟨rfl, rfl⟩
          first | refine g_pure (p_pickt rfl rfl) rfl ?_ | refine g_pure (p_pickf rfl rfl) rfl ?_
          refine g_pure (p_assign rfl) rfl ?_
          refine g_nil ?_
          refine g_qt ?_
          refine g_ret ?_
          refine g_qt_ret ?_
          exact g_post (Ho := []) (rs := [.tmp 8]) rfl (.tmp rfl .nil) rfl .nil
        | false =>
          have hbl := bitsR_len w0 bits
          have hfb := from_bits (bitsR w0 bits)
          rw [hbl] at hfb
          refine g_iff rfl ?_
          refine g_skip ?_
          refine g_qt ?_
          refine g_seq ?_
          refine g_region ?_
          refine g_pure (p_move rfl) rfl ?_
          refine g_pure (p_move rfl) rfl ?_
          refine g_pure (p_move rfl) rfl ?_
          refine g_pure (p_move rfl) rfl ?_
          refine g_call (Hin := [Gr p (S0 (1 + w0))]) (Hr := ?hr13) (R := ?rr13) rfl rfl rfl ?hin13 ?hc13 ?hk13
          case hin13 => repeat' (first | exact Cover.nil | exact Take.here | apply Cover.cons | apply Take.there)
          case hc13 => intro ρ' hρ hR; exact bvalid_ok p hSw (by omega) (h.mono hρ) hl t ht hw0 h0 hfl (RSl.of_own (Take.ro (A := OwnSl 27 1 la w0 lc ((inFrom 1 w0).map encI)) (by repeat' (first | exact Take.here | apply Take.there)) hR)) hden
          rintro _ _ ⟨l, T, rfl, rfl, u, d⟩
          refine g_pure (p_move rfl) rfl ?_
          refine g_pure (p_extract rfl rfl) rfl ?_
          refine g_pure (p_extract rfl rfl) rfl ?_
          refine g_pure (p_assign rfl) rfl ?_
          refine g_pure (p_assign rfl) rfl ?_
          refine g_nil ?_
          refine g_qt ?_
          refine g_seq ?_
          refine g_region ?_
          refine g_eff (e_bs (xs := [.const (.bool false)]) rfl rfl rfl (by rfl) (by rfl) rfl (by rfl)) rfl (fun _ _ => ?_)
          rintro ⟨b119, rfl, rfl⟩
          refine g_pure (p_move rfl) rfl ?_
          first | refine g_pure (p_convi (by rfl) rfl (by omega)) rfl ?_ | refine g_pure (p_conv (by rfl) rfl) rfl ?_
          refine g_pure (p_move rfl) rfl ?_
          refine g_call (Hin := []) (Hr := ?hr14) (R := ?rr14) rfl rfl rfl ?hin14 ?hc14 ?hk14
          case hin14 => repeat' (first | exact Cover.nil | exact Take.here | apply Cover.cons | apply Take.there)
          case hc14 => intro ρ' hρ hR; exact dbits_ok bits (by unfold I64; omega) w0 (by omega)
          rintro _ _ ⟨ba, bc, rfl, rfl⟩
          refine g_own (e := 4) (a1 := ba) (k := w0) (cap := bc) (xs := (bitsR w0 bits).map encB) (by repeat' (first | exact Take.here | apply Take.there)) (fun _ h2 _ _ => absurd h2 (by omega)) ?_
          rintro gb curb rfl c1 c2 c3 c4 c5
          refine own_of_lit (e := 4) (b := b119) (v := .bool false) (by repeat' (first | exact Take.here | apply Take.there)) ?_
          have hsub : sub curb 0 (w0 * 1) = some ((bitsR w0 bits).map encB) := by
            have h1 := congrArg List.length c4
            rw [List.length_take, List.length_map, hbl] at h1
            unfold sub
            rw [if_pos (by omega), List.drop_zero, c4]
          have hone : one1 ((bitsR w0 bits).map encB) = true := by unfold one1; rw [List.all_eq_true]; intro v hv; obtain ⟨y, _, rfl⟩ := List.mem_map.1 hv; rfl
          refine g_eff (e_append rfl rfl rfl rfl (Has.own (b := gb) (by repeat' (first | exact Take.here | apply Take.there))) hsub hone (by repeat' (first | exact Take.here | apply Take.there)) (by omega) (by dsimp only; omega) (by omega)) rfl (fun _ _ => ?_)
          rintro ⟨na, nc, rfl, rfl⟩
          refine g_pure (p_assign rfl) rfl ?_
          refine g_nil ?_
          refine g_qt ?_
          refine g_seq ?_
          refine g_region ?_
          refine g_pure (p_move rfl) rfl ?_
          refine g_pure (p_move rfl) rfl ?_
          refine g_pure (p_move rfl) rfl ?_
          refine g_eff (e_bs (xs := [.tmp 128]) rfl rfl rfl (by rfl) (by rfl) rfl (by rfl)) rfl (fun _ _ => ?_)
          rintro ⟨b129, rfl, rfl⟩
          have ein : [Value.bool false] ++ (bitsR w0 bits).map encB = (false :: bitsR w0 bits).map encB := rfl
          rw [ein]
          have hil : (false :: bitsR w0 bits).length = 1 + w0 := by rw [List.length_cons, hbl]; omega
          have hev : eval1 T (false :: bitsR w0 bits) [l] = ([okV es t (bitsR w0 bits)], 0) := by
            have := eval_up u hil (DenL.one d)
            rw [this]
            show ([okV es t ((List.range w0).map fun i => (false :: bitsR w0 bits).getD (1 + i) false)], (0 : Int)) = _
            rw [hfb]
          refine g_call (Hin := []) (Hr := ?hr15) (R := ?rr15) rfl rfl rfl ?hin15 ?hc15 ?hk15
          case hin15 => repeat' (first | exact Cover.nil | exact Take.here | apply Cover.cons | apply Take.there)
          case hc15 => intro ρ' hρ hR; exact (by have := eval_at (ρ := ρ') (p := p) (ia := na) (ic := nc) (al := some ⟨b129, 0, none⟩) (cl := 1) hev (by rw [hil]; exact RSl.of_own (Take.ro (A := OwnSl 4 1 na (1 + w0) nc ((false :: bitsR w0 bits).map encB)) (by repeat' (first | exact Take.here | apply Take.there)) hR)) (RSl.of_blk (k := 1) (size := 1) (cs := [Value.int .i64 l]) (Take.ro (A := Blk b129 (.cells [.int .i64 l].toArray 27 (0, 0))) (by repeat' (first | exact Take.here | apply Take.there)) hR).blk (Nat.le_refl _)) (by simp) (by omega) (fun x hx => by rw [List.mem_singleton.1 hx]; exact d.i64 u.wf) (Take.ro (A := Gr p T) (by repeat' (first | exact Take.here | apply Take.there)) hR); rw [hil] at this; exact this)
          rintro _ _ ⟨va, vc, rfl, rfl⟩
          refine g_pure (p_move rfl) rfl ?_
          refine g_pure (p_extract rfl rfl) rfl ?_
          refine g_pure (p_extract rfl rfl) rfl ?_
          refine g_pure (p_assign rfl) rfl ?_
          refine g_pure (p_assign rfl) rfl ?_
          refine g_nil ?_
          refine g_qt ?_
          refine g_seq ?_
          refine g_cap (e := 4) (size := 1) (a1 := na) (k := 1 + w0) (cap := nc) (xs := (false :: bitsR w0 bits).map encB) (by repeat' (first | exact Take.here | apply Take.there)) fun hcap _ => ?_
          refine g_region ?_
          refine g_pure (p_move rfl) rfl ?_
          refine g_pure (p_move rfl) rfl ?_
          refine g_pure (p_move rfl) rfl ?_
          refine g_pure (p_slicel rfl rfl (by omega)) rfl ?_
          refine g_call (Hin := []) (Hr := ?hr16) (R := ?rr16) rfl rfl rfl ?hin16 ?hc16 ?hk16
          case hin16 => repeat' (first | exact Cover.nil | exact Take.here | apply Cover.cons | apply Take.there)
          case hc16 => intro ρ' hρ hR; exact (by have := dvalue_ok (ρ := ρ') (ec := ec) (bs := bitsR w0 bits) (ba := if nc = (1 : Int).toNat then na else na.map (·.add ((1 : Int).toNat * 1))) (bc := nc - (1 : Int).toNat) (h.mono hρ) hl t ht (by rw [hbl, if_neg (by show ¬ nc = 1; omega)]; have := rsl_sub (o := 1) (k := w0) (ad := na.map (·.add (1 * 1))) (RSl.of_own (Take.ro (A := OwnSl 4 1 na (1 + w0) nc ((false :: bitsR w0 bits).map encB)) (by repeat' (first | exact Take.here | apply Take.there)) hR)) (Nat.le_refl _) (fun _ => rfl); rw [List.map_cons, List.drop_succ_cons, List.drop_zero, List.take_of_length_le (by rw [List.length_map]; omega)] at this; exact this) (by omega); rw [hbl] at this; rw [show 1 + w0 - (1 : Int).toNat = w0 by show 1 + w0 - 1 = w0; omega]; exact this)
          rintro _ _ ⟨rfl, rfl⟩
          refine g_pure (p_move rfl) rfl ?_
          refine g_pure (p_extract rfl rfl) rfl ?_
          refine g_pure (p_extract rfl rfl) rfl ?_
          refine g_pure (p_assign rfl) rfl ?_
          refine g_pure (p_assign rfl) rfl ?_
          refine g_nil ?_
          refine g_qt ?_
          refine g_seq ?_
          refine g_own (e := 4) (a1 := va) (k := 1) (cap := vc) (xs := [okV es t (bitsR w0 bits)].map encB) (by repeat' (first | exact Take.here | apply Take.there)) (fun _ h2 _ _ => absurd h2 (by decide)) ?_
          rintro gv curv rfl f1 f2 f3 f4 f5
          have hv : curv[0 + (0 : Int).toNat * 1]? = some (.bool (okV es t (bitsR w0 bits))) := own_at (k := 0) f4 rfl rfl
          refine g_region ?_
          refine g_pure (p_move rfl) rfl ?_
          refine g_pure (p_eqlT rfl rfl rfl) rfl ?_
          refine g_pure (p_move rfl) rfl ?_
          refine g_yes rfl rfl ?_
          refine g_pure (p_move rfl) rfl ?_
          refine g_yes rfl rfl ?_
          refine g_pure (p_eqlT rfl rfl rfl) rfl ?_
          first | refine g_pure (p_pickt rfl rfl) rfl ?_ | refine g_pure (p_pickf rfl rfl) rfl ?_
          refine g_pure (p_move rfl) rfl ?_
          refine g_yes rfl rfl ?_
          refine g_pure (p_move rfl) rfl ?_
          refine g_yes rfl rfl ?_
          refine g_pure (p_len (by rfl) rfl) rfl ?_
          refine g_yes rfl rfl ?_
          refine g_pure (p_eqlT rfl rfl rfl) rfl ?_
          first | refine g_pure (p_pickt rfl rfl) rfl ?_ | refine g_pure (p_pickf rfl rfl) rfl ?_
          refine g_pure (p_move rfl) rfl ?_
          refine g_yes rfl rfl ?_
          refine g_pure (p_move rfl) rfl ?_
          refine g_yes rfl rfl ?_
          refine g_pure (p_indexAddr rfl rfl ⟨Int.le_refl 0, (by show (0 : Int) < 1; decide)⟩ (fun _ => rfl)) rfl ?_
          refine g_yes rfl rfl ?_
          refine g_pure (p_load (by rfl) rfl (Has.own (by repeat' (first | exact Take.here | apply Take.there))) hv) rfl ?_
          refine g_yes rfl rfl ?_
          refine g_pure (p_move rfl) rfl ?_
          refine g_yes rfl rfl ?_
          refine g_pure (p_eql rfl rfl) rfl ?_
          refine g_yes rfl rfl ?_
          refine g_pure (p_eqlbT (by rfl) rfl rfl rfl) rfl ?_
          first | refine g_pure (p_pickt rfl rfl) rfl ?_ | refine g_pure (p_pickf rfl rfl) rfl ?_
          refine g_pure (p_move rfl) rfl ?_
          refine g_yes rfl rfl ?_
          refine g_call (Hin := []) (Hr := ?hr17) (R := ?rr17) rfl rfl rfl ?hin17 ?hc17 ?hk17
          case hin17 => repeat' (first | exact Cover.nil | exact Take.here | apply Cover.cons | apply Take.there)
          case hc17 => intro ρ' hρ hR; exact blives_ok
          rintro _ _ ⟨rfl, rfl⟩
          first | refine g_pure (p_pickt rfl rfl) rfl ?_ | refine g_pure (p_pickf rfl rfl) rfl ?_
          refine g_pure (p_assign rfl) rfl ?_
          refine g_nil ?_
          refine g_qt ?_
          refine g_ret ?_
          exact g_post (Ho := []) (rs := [.tmp 8]) rfl (.tmp rfl .nil) rfl .nil
end Go.Proofs.Ytkebblmmgcgjkaa
