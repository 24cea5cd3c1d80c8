/- Own texts, put together: M0 M1 M2. Conditions: as told at each. -/
import Derived.Test.YtkebblmmgcgjkaaMBmK1
import Derived.Test.YtkebblmmgcgjkaaZl
/- BlastValid. Conditions: none. -/
namespace Go.Proofs.Ytkebblmmgcgjkaa
set_option maxRecDepth 8000
set_option linter.unusedVariables false
set_option linter.unusedSimpArgs false
set_option linter.unusedSectionVars false
open Go Go.Z Go.Z.Val Go.Z.Aig Go.Z.Bit

theorem den_from {m k : Nat} (hm : m + k ≤ 1000) : DenL (S0 (m + k)) (inFrom m k) (fun inp => (List.range k).map fun i => inp.getD (m + i) false) := by
  refine ⟨fun l hl => ?_, fun inp => ?_⟩
  · obtain ⟨i, hi, rfl⟩ := List.mem_map.1 hl
    exact (den_in hm (show m + i < m + k by have := List.mem_range.1 hi; omega)).1
  · unfold inFrom
    rw [List.map_map]
    refine List.map_congr_left fun i hi => ?_
    exact (den_in hm (show m + i < m + k by have := List.mem_range.1 hi; omega)).2 inp
theorem from_bits (bs : List Bool) : ((List.range bs.length).map fun i => (false :: bs).getD (1 + i) false) = bs := by
  apply List.ext_getElem
  · simp
  · intro i h1 h2
    rw [List.getElem_map, List.getElem_range, Nat.add_comm, List.getD_cons_succ, List.getD_eq_getElem?_getD, List.getElem?_eq_getElem h2]; rfl

set_option maxHeartbeats 4000000 in
theorem bvalidlaw_ok {ρ : Nat → Obj → Prop} {ea : Option Addr} {ec : Nat} {es : List En} (h : EnR ρ ea es) (hl : es.length ≤ maxLen) (t bits : Int) (ht : I64 t) (hbits : 0 ≤ bits ∧ bits ≤ 65535) (short : Bool) :
    Con Try.prog ρ 7 #[.slice ea es.length ec, .int .i64 t, .int .u16 bits, .bool short] [] (fun u H => u = .bool true) := by
  refine con_intro Try.func7 Try.call7 rfl Try.ntmps7 rfl (L := [(0, _), (1, _), (2, _), (3, _)]) rfl fun w hh => ?_
  refine g_seq ?_
  refine g_region ?_
  refine g_pure (p_assign rfl) rfl ?_
  refine g_nil ?_
  refine g_qt ?_
  refine g_seq ?_
  refine g_seq ?_
  refine g_region ?_
  refine g_pure (p_move rfl) rfl ?_
  refine g_call (Hin := []) (Hr := ?hr1) (R := ?rr1) rfl rfl rfl ?hin1 ?hc1 ?hk1
  case hin1 => repeat' (first | exact Cover.nil | exact Take.here | apply Cover.cons | apply Take.there)
  case hc1 => intro ρ' hρ hR; exact few_ok (h.mono hρ) hl
  rintro _ _ ⟨⟨fb, rfl⟩, rfl⟩
  refine g_pure (p_not rfl) rfl ?_
  refine g_nil ?_
  refine g_qt ?_
  cases fb with
  | false =>
    refine g_ift rfl ?_
    refine g_seq ?_
    refine g_region ?_
    refine g_call (Hin := []) (Hr := ?hr2) (R := ?rr2) rfl rfl rfl ?hin2 ?hc2 ?hk2
    case hin2 => repeat' (first | exact Cover.nil | exact Take.here | apply Cover.cons | apply Take.there)
    case hc2 => intro ρ' hρ hR; exact blives_ok
    rintro _ _ ⟨rfl, rfl⟩
    refine g_pure (p_assign rfl) rfl ?_
    refine g_nil ?_
    refine g_qt ?_
    refine g_ret ?_
    refine g_qt_ret ?_
    exact g_post (Ho := []) (rs := [.tmp 8]) rfl (.tmp rfl .nil) rfl .nil
  | true =>
    refine g_iff rfl ?_
    refine g_skip ?_
    refine g_qt ?_
    refine g_seq ?_
    refine g_region ?_
    refine g_call (Hin := []) (Hr := ?hr3) (R := ?rr3) rfl rfl rfl ?hin3 ?hc3 ?hk3
    case hin3 => repeat' (first | exact Cover.nil | exact Take.here | apply Cover.cons | apply Take.there)
    case hc3 => intro ρ' hρ hR; exact inputs38_ok 1 (by omega)
    rintro _ _ ⟨p, ia, ic, rfl, rfl⟩
    refine g_pure (p_move rfl) rfl ?_
    refine g_pure (p_extract rfl rfl) rfl ?_
    refine g_pure (p_extract rfl rfl) rfl ?_
    refine g_pure (p_assign rfl) rfl ?_
    refine g_pure (p_assign rfl) rfl ?_
    refine g_nil ?_
    refine g_qt ?_
    refine g_seq ?_
    refine g_seq ?_
    refine g_region ?_
    refine g_pure (p_move rfl) rfl ?_
    refine g_pure (p_eqnil (by rfl) rfl rfl) rfl ?_
    refine g_nil ?_
    refine g_qt ?_
    refine g_iff rfl ?_
    refine g_skip ?_
    refine g_qt ?_
    refine g_seq ?_
    refine g_region ?_
    refine g_pure (p_move rfl) rfl ?_
    refine g_pure (p_move rfl) rfl ?_
    refine g_call (Hin := []) (Hr := ?hr4) (R := ?rr4) rfl rfl rfl ?hin4 ?hc4 ?hk4
    case hin4 => repeat' (first | exact Cover.nil | exact Take.here | apply Cover.cons | apply Take.there)
    case hc4 => intro ρ' hρ hR; exact dwidth_ok (h.mono hρ) hl t ht
    rintro _ _ ⟨rfl, rfl⟩
    refine g_pure (p_assign rfl) rfl ?_
    refine g_nil ?_
    refine g_qt ?_
    refine g_seq ?_
    refine g_region ?_
    refine g_pure (p_move rfl) rfl ?_
    refine g_pure (p_move rfl) rfl ?_
    refine g_pure (p_move rfl) rfl ?_
    have hwl := widthN_le es t
    obtain ⟨w0, hw0⟩ : ∃ w0, widthN es t = w0 := ⟨_, rfl⟩
    rw [hw0] at hwl ⊢
    by_cases h0 : w0 = 0
    · subst h0
      refine g_call (Hin := [Gr p (S0 1)]) (Hr := ?hr5) (R := ?rr5) rfl rfl rfl ?hin5 ?hc5 ?hk5
      case hin5 => repeat' (first | exact Cover.nil | exact Take.here | apply Cover.cons | apply Take.there)
      case hc5 => intro ρ' hρ hR; exact binput_no p 1 (h.mono hρ) hl t ht hw0
      rintro _ _ ⟨rfl, rfl⟩
      refine g_pure (p_move rfl) rfl ?_
      refine g_pure (p_extract rfl rfl) rfl ?_
      refine g_pure (p_extract rfl rfl) rfl ?_
      refine g_pure (p_assign rfl) rfl ?_
      refine g_pure (p_assign rfl) rfl ?_
      refine g_nil ?_
      refine g_qt ?_
      refine g_seq ?_
      refine g_seq ?_
      refine g_region ?_
      refine g_pure (p_move rfl) rfl ?_
      refine g_pure (p_eqlT rfl rfl rfl) rfl ?_
      refine g_nil ?_
      refine g_qt ?_
      refine g_ift rfl ?_
      refine g_seq ?_
      refine g_region ?_
      refine g_pure (p_move rfl) rfl ?_
      refine g_pure (p_eqlT rfl rfl rfl) rfl ?_
      refine g_pure (p_move rfl) rfl ?_
      refine g_yes rfl rfl ?_
      refine g_pure (p_move rfl) rfl ?_
      refine g_yes rfl rfl ?_
      refine g_pure (p_len (by rfl) rfl) rfl ?_
      refine g_yes rfl rfl ?_
      refine g_pure (p_eqlT rfl rfl rfl) rfl ?_
      first | refine g_pure (p_pickt rfl rfl) rfl ?_ | refine g_pure (p_pickf rfl rfl) rfl ?_
      refine g_pure (p_move rfl) rfl ?_
      refine g_yes rfl rfl ?_
      refine g_pure (p_move rfl) rfl ?_
      refine g_yes rfl rfl ?_
      refine g_call (Hin := []) (Hr := ?hr6) (R := ?rr6) rfl rfl rfl ?hin6 ?hc6 ?hk6
      case hin6 => repeat' (first | exact Cover.nil | exact Take.here | apply Cover.cons | apply Take.there)
      case hc6 => intro ρ' hρ hR; exact glen_ok p (S0 1) (Take.ro (A := Gr p (S0 1)) (by repeat' (first | exact Take.here | apply Take.there)) hR)
      rintro _ _ ⟨rfl, rfl⟩
      refine g_yes rfl rfl ?_
      refine g_pure (p_eqlT rfl rfl rfl) rfl ?_
      first | refine g_pure (p_pickt rfl rfl) rfl ?_ | refine g_pure (p_pickf rfl rfl) rfl ?_
      refine g_pure (p_move rfl) rfl ?_
      refine g_yes rfl rfl ?_
      refine g_call (Hin := []) (Hr := ?hr7) (R := ?rr7) rfl rfl rfl ?hin7 ?hc7 ?hk7
      case hin7 => repeat' (first | exact Cover.nil | exact Take.here | apply Cover.cons | apply Take.there)
      case hc7 => intro ρ' hρ hR; exact blives_ok
      rintro _ _ ⟨rfl, rfl⟩
      first | refine g_pure (p_pickt rfl rfl) rfl ?_ | refine g_pure (p_pickf rfl rfl) rfl ?_
      refine g_pure (p_assign rfl) rfl ?_
      refine g_nil ?_
      refine g_qt ?_
      refine g_ret ?_
      refine g_qt_ret ?_
      exact g_post (Ho := []) (rs := [.tmp 8]) rfl (.tmp rfl .nil) rfl .nil
    · refine g_call (Hin := [Gr p (S0 1)]) (Hr := ?hr8) (R := ?rr8) rfl rfl rfl ?hin8 ?hc8 ?hk8
      case hin8 => repeat' (first | exact Cover.nil | exact Take.here | apply Cover.cons | apply Take.there)
      case hc8 => intro ρ' hρ hR; exact binput_ok p 1 (by omega) (h.mono hρ) hl t ht hw0 h0
      rintro _ _ ⟨la, lc, rfl, rfl⟩
      have hS : (S0 (1 + w0)).length = 1 + w0 + 1 := S0_len _
      have hSw := S0_wf (1 + w0) (by omega)
      have hfl := inFrom_len 1 w0
      have hden := den_from (m := 1) (k := w0) (by omega)
      refine g_pure (p_move rfl) rfl ?_
      refine g_pure (p_extract rfl rfl) rfl ?_
      refine g_pure (p_extract rfl rfl) rfl ?_
      refine g_pure (p_assign rfl) rfl ?_
      refine g_pure (p_assign rfl) rfl ?_
      refine g_nil ?_
      refine g_qt ?_
      refine g_seq ?_
      refine g_seq ?_
      refine g_region ?_
      refine g_pure (p_move rfl) rfl ?_
      refine g_pure (p_eqlF rfl rfl (by omega)) rfl ?_
      refine g_nil ?_
      refine g_qt ?_
      refine g_iff rfl ?_
      refine g_skip ?_
      refine g_qt ?_
      refine g_seq ?_
      refine g_seq ?_
      refine g_region ?_
      refine g_pure (p_move rfl) rfl ?_
      refine g_pure (p_neqF rfl rfl rfl) rfl ?_
      refine g_pure (p_move rfl) rfl ?_
      refine g_yes rfl rfl ?_
      refine g_pure (p_move rfl) rfl ?_
      refine g_yes rfl rfl ?_
      refine g_pure (p_len (by rfl) rfl) rfl ?_
      refine g_yes rfl rfl ?_
      refine g_pure (p_move rfl) rfl ?_
      refine g_yes rfl rfl ?_
      refine g_pure (p_neqF rfl rfl rfl) rfl ?_
      first | refine g_pure (p_pickt rfl rfl) rfl ?_ | refine g_pure (p_pickf rfl rfl) rfl ?_
      refine g_pure (p_move rfl) rfl ?_
      refine g_yes rfl rfl ?_
      refine g_pure (p_move rfl) rfl ?_
      refine g_yes rfl rfl ?_
      refine g_call (Hin := []) (Hr := ?hr9) (R := ?rr9) rfl rfl rfl ?hin9 ?hc9 ?hk9
      case hin9 => repeat' (first | exact Cover.nil | exact Take.here | apply Cover.cons | apply Take.there)
      case hc9 => intro ρ' hρ hR; exact glen_ok p (S0 (1 + w0)) (Take.ro (A := Gr p (S0 (1 + w0))) (by repeat' (first | exact Take.here | apply Take.there)) hR)
      rintro _ _ ⟨rfl, rfl⟩
      refine g_yes rfl rfl ?_
      refine g_pure (p_move rfl) rfl ?_
      refine g_yes rfl rfl ?_
      first | refine g_pure (p_addi rfl rfl (by omega)) rfl ?_ | refine g_pure (p_add rfl rfl) rfl ?_
      refine g_yes rfl rfl ?_
      refine g_pure (p_neqF rfl rfl (by omega)) rfl ?_
      first | refine g_pure (p_pickt rfl rfl) rfl ?_ | refine g_pure (p_pickf rfl rfl) rfl ?_
      refine g_nil ?_
      refine g_qt ?_
      refine g_iff rfl ?_
      refine g_skip ?_
      refine g_qt ?_
      refine g_seq ?_
      refine g_seq ?_
      refine g_region ?_
      refine g_pure (p_assign rfl) rfl ?_
      refine g_nil ?_
      refine g_qt ?_
      refine g_block ?_
      refine g_loop (fun k : Nat => [(0, .slice ea es.length ec), (1, .int .i64 t), (2, .int .u16 bits), (3, .bool short), (9, .pointer (some ⟨p, 0, none⟩)), (11, .int .i64 w0), (12, .slice la w0 lc), (14, .int .i64 k)])
        (fun k => [OwnSl 27 1 la w0 lc ((inFrom 1 w0).map encI), Gr p (S0 (1 + w0))]) (fun k => k ≤ w0) (fun k => w0 - k) 0 (Nat.zero_le _) (by (repeat (first | exact trivial | refine ⟨by rfl, ?_⟩)); done) (by repeat' (first | exact Cover.nil | exact Take.here | apply Cover.cons | apply Take.there)) ?_
      rintro k hk
      refine g_seq ?_
      refine g_seq ?_
      refine g_region ?_
      refine g_pure (p_move rfl) rfl ?_
      refine g_pure (p_move rfl) rfl ?_
      refine g_pure (p_lss rfl rfl) rfl ?_
      refine g_nil ?_
      refine g_qt ?_
      refine g_ifd rfl (fun q => ?_) (fun q => ?_)
      · refine g_own (e := 27) (a1 := la) (k := w0) (cap := lc) (xs := (inFrom 1 w0).map encI) (by repeat' (first | exact Take.here | apply Take.there)) (fun _ h2 _ _ => absurd h2 (by omega)) ?_
        rintro gx curx rfl x1 x2 x3 x4 x5
        have hx : curx[0 + (k : Int).toNat * 1]? = some (.int .i64 (2 * (((1 + k : Nat) : Int) + 1))) := own_at (k := k) x4 rfl (by unfold inFrom; rw [List.getElem?_map, List.getElem?_map, List.getElem?_range (by omega)]; rfl)
        refine g_skip ?_
        refine g_qt ?_
        refine g_seq ?_
        refine g_block ?_
        refine g_seq ?_
        refine g_region ?_
        refine g_pure (p_move rfl) rfl ?_
        refine g_pure (p_move rfl) rfl ?_
        refine g_pure (p_indexAddr rfl rfl (by omega) (fun _ => rfl)) rfl ?_
        refine g_pure (p_load (by rfl) rfl (Has.own (by repeat' (first | exact Take.here | apply Take.there))) hx) rfl ?_
        refine g_pure (p_move rfl) rfl ?_
        first | refine g_pure (p_addi rfl rfl (by omega)) rfl ?_ | refine g_pure (p_add rfl rfl) rfl ?_
        first | refine g_pure (p_muli rfl rfl (by omega)) rfl ?_ | refine g_pure (p_mul rfl rfl) rfl ?_
        refine g_pure (p_neqF rfl rfl (by omega)) rfl ?_
        refine g_nil ?_
        refine g_qt ?_
        refine g_iff rfl ?_
        refine g_skip ?_
        refine g_qb ?_
        refine g_qt ?_
        refine g_region ?_
        refine g_pure (p_move rfl) rfl ?_
        first | refine g_pure (p_addi rfl rfl (by omega)) rfl ?_ | refine g_pure (p_add rfl rfl) rfl ?_
        refine g_pure (p_assign rfl) rfl ?_
        refine g_nil ?_
        refine g_qn ?_
        refine g_fold (e := 27) (g := gx) (k := w0) (cap := lc) (size := 1) (xs := (inFrom 1 w0).map encI) (by repeat' (first | exact Take.here | apply Take.there)) x1 x2 x3 x4 ?_
        exact g_next (k + 1) (by (repeat (first | exact trivial | refine ⟨by rfl, ?_⟩)); done) (by repeat' (first | exact Cover.nil | exact Take.here | apply Cover.cons | apply Take.there)) (by omega) (by omega)
      · refine g_exit ?_
        refine g_qt_exit ?_
        refine g_qn_exit ?_
        refine g_qb_exit ?_
        refine g_qt ?_
        refine g_seq ?_
        refine g_seq ?_
        refine g_region ?_
        refine g_pure (p_move rfl) rfl ?_
        refine g_nil ?_
        refine g_qt ?_
        cases short with
        | true =>
          refine g_ift rfl ?_
          refine g_seq ?_
          refine g_region ?_
          refine g_pure (p_move rfl) rfl ?_
          refine g_pure (p_move rfl) rfl ?_
          refine g_pure (p_move rfl) rfl ?_
          refine g_pure (p_move rfl) rfl ?_
          refine g_pure (p_slicel rfl rfl (by omega)) rfl ?_
          refine g_call (Hin := [Gr p (S0 (1 + w0))]) (Hr := ?hr10) (R := ?rr10) rfl rfl rfl ?hin10 ?hc10 ?hk10
          case hin10 => repeat' (first | exact Cover.nil | exact Take.here | apply Cover.cons | apply Take.there)
          case hc10 => intro ρ' hρ hR; exact bvalid_match p (1 + w0) (h.mono hρ) hl t ht (by omega) (by rw [hw0]; show w0 - 1 ≠ w0; omega)
          rintro _ _ ⟨rfl, rfl⟩
          refine g_pure (p_move rfl) rfl ?_
          refine g_pure (p_extract rfl rfl) rfl ?_
          refine g_pure (p_extract rfl rfl) rfl ?_
          refine g_pure (p_assign rfl) rfl ?_
          refine g_pure (p_assign rfl) rfl ?_
          refine g_nil ?_
          refine g_qt ?_
          refine g_seq ?_
          refine g_region ?_
          refine g_pure (p_move rfl) rfl ?_
          refine g_pure (p_eqlT rfl rfl rfl) rfl ?_
          refine g_pure (p_move rfl) rfl ?_
          refine g_yes rfl rfl ?_
          refine g_pure (p_move rfl) rfl ?_
          refine g_yes rfl rfl ?_
          refine g_call (Hin := []) (Hr := ?hr11) (R := ?rr11) rfl rfl rfl ?hin11 ?hc11 ?hk11
          case hin11 => repeat' (first | exact Cover.nil | exact Take.here | apply Cover.cons | apply Take.there)
          case hc11 => intro ρ' hρ hR; exact glen_ok p (S0 (1 + w0)) (Take.ro (A := Gr p (S0 (1 + w0))) (by repeat' (first | exact Take.here | apply Take.there)) hR)
          rintro _ _ ⟨rfl, rfl⟩
          refine g_yes rfl rfl ?_
          refine g_pure (p_move rfl) rfl ?_
          refine g_yes rfl rfl ?_
          first | refine g_pure (p_addi rfl rfl (by omega)) rfl ?_ | refine g_pure (p_add rfl rfl) rfl ?_
          refine g_yes rfl rfl ?_
          refine g_pure (p_eqlT rfl rfl (by omega)) rfl ?_
          first | refine g_pure (p_pickt rfl rfl) rfl ?_ | refine g_pure (p_pickf rfl rfl) rfl ?_
          refine g_pure (p_move rfl) rfl ?_
          refine g_yes rfl rfl ?_
          refine g_call (Hin := []) (Hr := ?hr12) (R := ?rr12) rfl rfl rfl ?hin12 ?hc12 ?hk12
          case hin12 => repeat' (first | exact Cover.nil | exact Take.here | apply Cover.cons | apply Take.there)
          case hc12 => intro ρ' hρ hR; exact blives_ok
          rintro _ _ ⟨rfl, rfl⟩
          first | refine g_pure (p_pickt rfl rfl) rfl ?_ | refine g_pure (p_pickf rfl rfl) rfl ?_
          refine g_pure (p_assign rfl) rfl ?_
          refine g_nil ?_
          refine g_qt ?_
          refine g_ret ?_
          refine g_qt_ret ?_
          exact g_post (Ho := []) (rs := [.tmp 8]) rfl (.tmp rfl .nil) rfl .nil
        | false =>
          have hbl := bitsR_len w0 bits
          have hfb := from_bits (bitsR w0 bits)
          rw [hbl] at hfb
          refine g_iff rfl ?_
          refine g_skip ?_
          refine g_qt ?_
          refine g_seq ?_
          refine g_region ?_
          refine g_pure (p_move rfl) rfl ?_
          refine g_pure (p_move rfl) rfl ?_
          refine g_pure (p_move rfl) rfl ?_
          refine g_pure (p_move rfl) rfl ?_
          refine g_call (Hin := [Gr p (S0 (1 + w0))]) (Hr := ?hr13) (R := ?rr13) rfl rfl rfl ?hin13 ?hc13 ?hk13
          case hin13 => repeat' (first | exact Cover.nil | exact Take.here | apply Cover.cons | apply Take.there)
          case hc13 => intro ρ' hρ hR; exact bvalid_ok p hSw (by omega) (h.mono hρ) hl t ht hw0 h0 hfl (RSl.of_own (Take.ro (A := OwnSl 27 1 la w0 lc ((inFrom 1 w0).map encI)) (by repeat' (first | exact Take.here | apply Take.there)) hR)) hden
          rintro _ _ ⟨l, T, rfl, rfl, u, d⟩
          refine g_pure (p_move rfl) rfl ?_
          refine g_pure (p_extract rfl rfl) rfl ?_
          refine g_pure (p_extract rfl rfl) rfl ?_
          refine g_pure (p_assign rfl) rfl ?_
          refine g_pure (p_assign rfl) rfl ?_
          refine g_nil ?_
          refine g_qt ?_
          refine g_seq ?_
          refine g_region ?_
          refine g_eff (e_bs (xs := [.const (.bool false)]) rfl rfl rfl (by rfl) (by rfl) rfl (by rfl)) rfl (fun _ _ => ?_)
          rintro ⟨b119, rfl, rfl⟩
          refine g_pure (p_move rfl) rfl ?_
          first | refine g_pure (p_convi (by rfl) rfl (by omega)) rfl ?_ | refine g_pure (p_conv (by rfl) rfl) rfl ?_
          refine g_pure (p_move rfl) rfl ?_
          refine g_call (Hin := []) (Hr := ?hr14) (R := ?rr14) rfl rfl rfl ?hin14 ?hc14 ?hk14
          case hin14 => repeat' (first | exact Cover.nil | exact Take.here | apply Cover.cons | apply Take.there)
          case hc14 => intro ρ' hρ hR; exact dbits_ok bits (by unfold I64; omega) w0 (by omega)
          rintro _ _ ⟨ba, bc, rfl, rfl⟩
          refine g_own (e := 4) (a1 := ba) (k := w0) (cap := bc) (xs := (bitsR w0 bits).map encB) (by repeat' (first | exact Take.here | apply Take.there)) (fun _ h2 _ _ => absurd h2 (by omega)) ?_
          rintro gb curb rfl c1 c2 c3 c4 c5
          refine own_of_lit (e := 4) (b := b119) (v := .bool false) (by repeat' (first | exact Take.here | apply Take.there)) ?_
          have hsub : sub curb 0 (w0 * 1) = some ((bitsR w0 bits).map encB) := by
            have h1 := congrArg List.length c4
            rw [List.length_take, List.length_map, hbl] at h1
            unfold sub
            rw [if_pos (by omega), List.drop_zero, c4]
          have hone : one1 ((bitsR w0 bits).map encB) = true := by unfold one1; rw [List.all_eq_true]; intro v hv; obtain ⟨y, _, rfl⟩ := List.mem_map.1 hv; rfl
          refine g_eff (e_append rfl rfl rfl rfl (Has.own (b := gb) (by repeat' (first | exact Take.here | apply Take.there))) hsub hone (by repeat' (first | exact Take.here | apply Take.there)) (by omega) (by dsimp only; omega) (by omega)) rfl (fun _ _ => ?_)
          rintro ⟨na, nc, rfl, rfl⟩
          refine g_pure (p_assign rfl) rfl ?_
          refine g_nil ?_
          refine g_qt ?_
          refine g_seq ?_
          refine g_region ?_
          refine g_pure (p_move rfl) rfl ?_
          refine g_pure (p_move rfl) rfl ?_
          refine g_pure (p_move rfl) rfl ?_
          refine g_eff (e_bs (xs := [.tmp 128]) rfl rfl rfl (by rfl) (by rfl) rfl (by rfl)) rfl (fun _ _ => ?_)
          rintro ⟨b129, rfl, rfl⟩
          have ein : [Value.bool false] ++ (bitsR w0 bits).map encB = (false :: bitsR w0 bits).map encB := rfl
          rw [ein]
          have hil : (false :: bitsR w0 bits).length = 1 + w0 := by rw [List.length_cons, hbl]; omega
          have hev : eval1 T (false :: bitsR w0 bits) [l] = ([okV es t (bitsR w0 bits)], 0) := by
            have := eval_up u hil (DenL.one d)
            rw [this]
            show ([okV es t ((List.range w0).map fun i => (false :: bitsR w0 bits).getD (1 + i) false)], (0 : Int)) = _
            rw [hfb]
          refine g_call (Hin := []) (Hr := ?hr15) (R := ?rr15) rfl rfl rfl ?hin15 ?hc15 ?hk15
          case hin15 => repeat' (first | exact Cover.nil | exact Take.here | apply Cover.cons | apply Take.there)
          case hc15 => intro ρ' hρ hR; exact (by have := eval_at (ρ := ρ') (p := p) (ia := na) (ic := nc) (al := some ⟨b129, 0, none⟩) (cl := 1) hev (by rw [hil]; exact RSl.of_own (Take.ro (A := OwnSl 4 1 na (1 + w0) nc ((false :: bitsR w0 bits).map encB)) (by repeat' (first | exact Take.here | apply Take.there)) hR)) (RSl.of_blk (k := 1) (size := 1) (cs := [Value.int .i64 l]) (Take.ro (A := Blk b129 (.cells [.int .i64 l].toArray 27 (0, 0))) (by repeat' (first | exact Take.here | apply Take.there)) hR).blk (Nat.le_refl _)) (by simp) (by omega) (fun x hx => by rw [List.mem_singleton.1 hx]; exact d.i64 u.wf) (Take.ro (A := Gr p T) (by repeat' (first | exact Take.here | apply Take.there)) hR); rw [hil] at this; exact this)
          rintro _ _ ⟨va, vc, rfl, rfl⟩
          refine g_pure (p_move rfl) rfl ?_
          refine g_pure (p_extract rfl rfl) rfl ?_
          refine g_pure (p_extract rfl rfl) rfl ?_
          refine g_pure (p_assign rfl) rfl ?_
          refine g_pure (p_assign rfl) rfl ?_
          refine g_nil ?_
          refine g_qt ?_
          refine g_seq ?_
          refine g_cap (e := 4) (size := 1) (a1 := na) (k := 1 + w0) (cap := nc) (xs := (false :: bitsR w0 bits).map encB) (by repeat' (first | exact Take.here | apply Take.there)) fun hcap _ => ?_
          refine g_region ?_
          refine g_pure (p_move rfl) rfl ?_
          refine g_pure (p_move rfl) rfl ?_
          refine g_pure (p_move rfl) rfl ?_
          refine g_pure (p_slicel rfl rfl (by omega)) rfl ?_
          refine g_call (Hin := []) (Hr := ?hr16) (R := ?rr16) rfl rfl rfl ?hin16 ?hc16 ?hk16
          case hin16 => repeat' (first | exact Cover.nil | exact Take.here | apply Cover.cons | apply Take.there)
          case hc16 => intro ρ' hρ hR; exact (by have := dvalue_ok (ρ := ρ') (ec := ec) (bs := bitsR w0 bits) (ba := if nc = (1 : Int).toNat then na else na.map (·.add ((1 : Int).toNat * 1))) (bc := nc - (1 : Int).toNat) (h.mono hρ) hl t ht (by rw [hbl, if_neg (by show ¬ nc = 1; omega)]; have := rsl_sub (o := 1) (k := w0) (ad := na.map (·.add (1 * 1))) (RSl.of_own (Take.ro (A := OwnSl 4 1 na (1 + w0) nc ((false :: bitsR w0 bits).map encB)) (by repeat' (first | exact Take.here | apply Take.there)) hR)) (Nat.le_refl _) (fun _ => rfl); rw [List.map_cons, List.drop_succ_cons, List.drop_zero, List.take_of_length_le (by rw [List.length_map]; omega)] at this; exact this) (by omega); rw [hbl] at this; rw [show 1 + w0 - (1 : Int).toNat = w0 by show 1 + w0 - 1 = w0; omega]; exact this)
          rintro _ _ ⟨rfl, rfl⟩
          refine g_pure (p_move rfl) rfl ?_
          refine g_pure (p_extract rfl rfl) rfl ?_
          refine g_pure (p_extract rfl rfl) rfl ?_
          refine g_pure (p_assign rfl) rfl ?_
          refine g_pure (p_assign rfl) rfl ?_
          refine g_nil ?_
          refine g_qt ?_
          refine g_seq ?_
          refine g_own (e := 4) (a1 := va) (k := 1) (cap := vc) (xs := [okV es t (bitsR w0 bits)].map encB) (by repeat' (first | exact Take.here | apply Take.there)) (fun _ h2 _ _ => absurd h2 (by decide)) ?_
          rintro gv curv rfl f1 f2 f3 f4 f5
          have hv : curv[0 + (0 : Int).toNat * 1]? = some (.bool (okV es t (bitsR w0 bits))) := own_at (k := 0) f4 rfl rfl
          refine g_region ?_
          refine g_pure (p_move rfl) rfl ?_
          refine g_pure (p_eqlT rfl rfl rfl) rfl ?_
          refine g_pure (p_move rfl) rfl ?_
          refine g_yes rfl rfl ?_
          refine g_pure (p_move rfl) rfl ?_
          refine g_yes rfl rfl ?_
          refine g_pure (p_eqlT rfl rfl rfl) rfl ?_
          first | refine g_pure (p_pickt rfl rfl) rfl ?_ | refine g_pure (p_pickf rfl rfl) rfl ?_
          refine g_pure (p_move rfl) rfl ?_
          refine g_yes rfl rfl ?_
          refine g_pure (p_move rfl) rfl ?_
          refine g_yes rfl rfl ?_
          refine g_pure (p_len (by rfl) rfl) rfl ?_
          refine g_yes rfl rfl ?_
          refine g_pure (p_eqlT rfl rfl rfl) rfl ?_
          first | refine g_pure (p_pickt rfl rfl) rfl ?_ | refine g_pure (p_pickf rfl rfl) rfl ?_
          refine g_pure (p_move rfl) rfl ?_
          refine g_yes rfl rfl ?_
          refine g_pure (p_move rfl) rfl ?_
          refine g_yes rfl rfl ?_
          refine g_pure (p_indexAddr rfl rfl ⟨Int.le_refl 0, (by show (0 : Int) < 1; decide)⟩ (fun _ => rfl)) rfl ?_
          refine g_yes rfl rfl ?_
          refine g_pure (p_load (by rfl) rfl (Has.own (by repeat' (first | exact Take.here | apply Take.there))) hv) rfl ?_
          refine g_yes rfl rfl ?_
          refine g_pure (p_move rfl) rfl ?_
          refine g_yes rfl rfl ?_
          refine g_pure (p_eql rfl rfl) rfl ?_
          refine g_yes rfl rfl ?_
          refine g_pure (p_eqlbT (by rfl) rfl rfl rfl) rfl ?_
          first | refine g_pure (p_pickt rfl rfl) rfl ?_ | refine g_pure (p_pickf rfl rfl) rfl ?_
          refine g_pure (p_move rfl) rfl ?_
          refine g_yes rfl rfl ?_
          refine g_call (Hin := []) (Hr := ?hr17) (R := ?rr17) rfl rfl rfl ?hin17 ?hc17 ?hk17
          case hin17 => repeat' (first | exact Cover.nil | exact Take.here | apply Cover.cons | apply Take.there)
          case hc17 => intro ρ' hρ hR; exact blives_ok
          rintro _ _ ⟨rfl, rfl⟩
          first | refine g_pure (p_pickt rfl rfl) rfl ?_ | refine g_pure (p_pickf rfl rfl) rfl ?_
          refine g_pure (p_assign rfl) rfl ?_
          refine g_nil ?_
          refine g_qt ?_
          refine g_ret ?_
          exact g_post (Ho := []) (rs := [.tmp 8]) rfl (.tmp rfl .nil) rfl .nil
end Go.Proofs.Ytkebblmmgcgjkaa
/- BlastMuxes. Conditions: none. -/
namespace Go.Proofs.Ytkebblmmgcgjkaa
set_option maxRecDepth 8000
set_option linter.unusedVariables false
set_option linter.unusedSimpArgs false
set_option linter.unusedSectionVars false
open Go Go.Z Go.Z.Val Go.Z.Aig Go.Z.Bit

theorem has6 (a : Int) : hasB (S0 6) a = decide (0 ≤ a ∧ a < 14) := by
  unfold hasB
  rw [S0_len, Bool.eq_iff_iff]; simp
theorem all_snoc {l : List Int} {k : Nat} (hk : k < l.length) (p : Int → Bool) (c : List Int) : (c ++ l.take (k + 1)).all p = ((c ++ l.take k).all p && p l[k]) := by
  rw [List.take_add_one, List.getElem?_eq_getElem hk, Option.toList_some, ← List.append_assoc, List.all_append (xs := c ++ l.take k)]; simp
theorem ones (l : List Int) : one1 (l.map encI) = true := by unfold one1; rw [List.all_eq_true]; intro v hv; obtain ⟨y, _, rfl⟩ := List.mem_map.1 hv; rfl

theorem bools_n {ρ : Nat → Obj → Prop} {xa ya : Option Addr} {xc yc n : Nat} {xs ys : List Bool} (hl : xs.length = n) (he : xs = ys) (hx : RSl ρ 1 xa n (xs.map encB)) (hy : RSl ρ 1 ya n (ys.map encB)) (hn : n ≤ 1000000) :
    Con Try.prog ρ 31 #[.slice xa n xc, .slice ya n yc] [] (fun v H => v = .bool true ∧ H = []) := by
  subst he hl
  exact bools38_ok hx hy hn rfl

set_option maxHeartbeats 8000000 in
theorem bmuxes_ok {ρ : Nat → Obj → Prop} (c inb : Int) (hc : I64 c) (hib : 0 ≤ inb ∧ inb ≤ 255) {aa ba : Option Addr} {ac bc : Nat} {as' bs : List Int} (ha : RSl ρ 1 aa as'.length (as'.map encI)) (hb : RSl ρ 1 ba bs.length (bs.map encI)) (hai : ∀ l ∈ as', I64 l) (hbi : ∀ l ∈ bs, I64 l) (hal : as'.length ≤ 9223372036854775807) (hbl : bs.length ≤ 9223372036854775807) :
    Con Try.prog ρ 6 #[.int .i64 c, .slice aa as'.length ac, .slice ba bs.length bc, .int .u8 inb] [] (fun u H => u = .bool true) := by
  obtain ⟨b1, o1, cs1, T1, fz1, hra⟩ := lrd ha
  obtain ⟨b2, o2, cs2, T2, fz2, hrb⟩ := lrd hb
  have hS : (S0 6).length = 7 := S0_len 6
  have hw0 := S0_wf 6 (by omega)
  refine con_intro Try.func6 Try.call6 rfl Try.ntmps6 rfl (L := [(0, _), (1, _), (2, _), (3, _)]) rfl fun w hh => ?_
  refine g_seq ?_
  refine g_region ?_
  refine g_pure (p_assign rfl) rfl ?_
  refine g_nil ?_
  refine g_qt ?_
  refine g_seq ?_
  refine g_join (fun _ : Unit => [(0, .int .i64 c), (1, .slice aa as'.length ac), (2, .slice ba bs.length bc), (3, .int .u8 inb)]) (fun _ => []) (fun _ => as'.length ≤ 20 ∧ bs.length ≤ 20) ?_ ?_
  · refine g_seq ?_
    refine g_region ?_
    refine g_pure (p_move rfl) rfl ?_
    refine g_pure (p_len (by rfl) rfl) rfl ?_
    refine g_pure (p_gtr rfl rfl) rfl ?_
    refine g_pure (p_move rfl) rfl ?_
    refine g_splitd rfl rfl (fun h1 => ?_) (fun h1 => ?_)
    · refine g_no rfl rfl rfl rfl ?_
      refine g_no rfl rfl rfl rfl ?_
      refine g_no rfl rfl rfl rfl ?_
      first | refine g_pure (p_pickt rfl rfl) rfl ?_ | refine g_pure (p_pickf rfl rfl) rfl ?_
      refine g_nil ?_
      refine g_qt ?_
      refine g_ift rfl ?_
      refine g_seq ?_
      refine g_region ?_
      refine g_call (Hin := []) (Hr := ?hr1) (R := ?rr1) rfl rfl rfl ?hin1 ?hc1 ?hk1
      case hin1 => repeat' (first | exact Cover.nil | exact Take.here | apply Cover.cons | apply Take.there)
      case hc1 => intro ρ' hρ hR; exact blives_ok
      rintro _ _ ⟨rfl, rfl⟩
      refine g_pure (p_assign rfl) rfl ?_
      refine g_nil ?_
      refine g_qt ?_
      refine g_ret ?_
      refine g_qn_ret ?_
      refine g_qt_ret ?_
      exact g_post (Ho := []) (rs := [.tmp 8]) rfl (.tmp rfl .nil) rfl .nil
    · refine g_yes rfl rfl ?_
      refine g_pure (p_move rfl) rfl ?_
      refine g_yes rfl rfl ?_
      refine g_pure (p_len (by rfl) rfl) rfl ?_
      refine g_yes rfl rfl ?_
      refine g_pure (p_gtr rfl rfl) rfl ?_
      first | refine g_pure (p_pickt rfl rfl) rfl ?_ | refine g_pure (p_pickf rfl rfl) rfl ?_
      refine g_nil ?_
      refine g_qt ?_
      refine g_ifdL rfl (fun h3 => ?_) (fun h3 => ?_)
      · refine g_seq ?_
        refine g_region ?_
        refine g_call (Hin := []) (Hr := ?hr2) (R := ?rr2) rfl rfl rfl ?hin2 ?hc2 ?hk2
        case hin2 => repeat' (first | exact Cover.nil | exact Take.here | apply Cover.cons | apply Take.there)
        case hc2 => intro ρ' hρ hR; exact blives_ok
        rintro _ _ ⟨rfl, rfl⟩
        refine g_pure (p_assign rfl) rfl ?_
        refine g_nil ?_
        refine g_qt ?_
        refine g_ret ?_
        refine g_qn_ret ?_
        refine g_qt_ret ?_
        exact g_post (Ho := []) (rs := [.tmp 8]) rfl (.tmp rfl .nil) rfl .nil
      · refine g_skip ?_
        refine g_qn ?_
        exact g_joined () (by (repeat (first | exact trivial | refine ⟨by rfl, ?_⟩)); done) .nil (by omega)
  rintro _ ⟨ha20, hb20⟩
  refine g_qt ?_
  refine g_seq ?_
  refine g_region ?_
  refine g_call (Hin := []) (Hr := ?hr3) (R := ?rr3) rfl rfl rfl ?hin3 ?hc3 ?hk3
  case hin3 => repeat' (first | exact Cover.nil | exact Take.here | apply Cover.cons | apply Take.there)
  case hc3 => intro ρ' hρ hR; exact inputs38_ok 6 (by omega)
  rintro _ _ ⟨p, ia, ic, rfl, rfl⟩
  refine g_pure (p_move rfl) rfl ?_
  refine g_pure (p_extract rfl rfl) rfl ?_
  refine g_pure (p_extract rfl rfl) rfl ?_
  refine g_pure (p_assign rfl) rfl ?_
  refine g_pure (p_assign rfl) rfl ?_
  refine g_nil ?_
  refine g_qt ?_
  refine g_seq ?_
  refine g_seq ?_
  refine g_region ?_
  refine g_pure (p_move rfl) rfl ?_
  refine g_pure (p_eqnil (by rfl) rfl rfl) rfl ?_
  refine g_nil ?_
  refine g_qt ?_
  refine g_iff rfl ?_
  refine g_skip ?_
  refine g_qt ?_
  refine g_seq ?_
  refine g_join (fun y : Bool => [(0, .int .i64 c), (1, .slice aa as'.length ac), (2, .slice ba bs.length bc), (3, .int .u8 inb), (9, .pointer (some ⟨p, 0, none⟩)), (11, .bool y)]) (fun _ => [Gr p (S0 6)]) (fun y => y = ([c] ++ as'.take 0).all (hasB (S0 6))) ?_ ?_
  · refine g_region ?_
    refine g_pure (p_move rfl) rfl ?_
    refine g_pure (p_geq rfl rfl) rfl ?_
    refine g_pure (p_move rfl) rfl ?_
    refine g_splitd rfl rfl (fun h1 => ?_) (fun h1 => ?_)
    · refine g_yes rfl rfl ?_
      refine g_pure (p_move rfl) rfl ?_
      refine g_yes rfl rfl ?_
      refine g_pure (p_lss rfl rfl) rfl ?_
      first | refine g_pure (p_pickt rfl rfl) rfl ?_ | refine g_pure (p_pickf rfl rfl) rfl ?_
      refine g_pure (p_assign rfl) rfl ?_
      refine g_nil ?_
      refine g_qn ?_
      refine g_joined _ ⟨rfl, rfl, rfl, rfl, rfl, rfl, trivial⟩ (by repeat' (first | exact Cover.nil | exact Take.here | apply Cover.cons | apply Take.there)) ?_
      rw [show ([c] ++ as'.take 0).all (hasB (S0 6)) = hasB (S0 6) c by simp, has6]
      first | exact decide_eq_decide.2 (by omega) | exact (decide_eq_false (by omega)).symm
    · refine g_no rfl rfl rfl rfl ?_
      refine g_no rfl rfl rfl rfl ?_
      first | refine g_pure (p_pickt rfl rfl) rfl ?_ | refine g_pure (p_pickf rfl rfl) rfl ?_
      refine g_pure (p_assign rfl) rfl ?_
      refine g_nil ?_
      refine g_qn ?_
      refine g_joined _ ⟨rfl, rfl, rfl, rfl, rfl, rfl, trivial⟩ (by repeat' (first | exact Cover.nil | exact Take.here | apply Cover.cons | apply Take.there)) ?_
      rw [show ([c] ++ as'.take 0).all (hasB (S0 6)) = hasB (S0 6) c by simp, has6]
      first | exact decide_eq_decide.2 (by omega) | exact (decide_eq_false (by omega)).symm
  rintro y0 hy0
  refine g_qt ?_
  refine g_seq ?_
  refine g_region ?_
  refine g_pure (p_assign rfl) rfl ?_
  refine g_pure (p_assign rfl) rfl ?_
  refine g_nil ?_
  refine g_qt ?_
  refine g_seq ?_
  refine g_seq ?_
  refine g_region ?_
  refine g_pure (p_assign rfl) rfl ?_
  refine g_nil ?_
  refine g_qt ?_
  refine g_block ?_
  refine g_ownnil (e := 27) (size := 1) ?_
  refine g_ownnil (e := 27) (size := 1) ?_
  refine g_loop (fun q : Nat × Option Addr × Nat × Bool => [(0, .int .i64 c), (1, .slice aa as'.length ac), (2, .slice ba bs.length bc), (3, .int .u8 inb), (9, .pointer (some ⟨p, 0, none⟩)), (11, .bool q.2.2.2), (12, .slice q.2.1 q.1 q.2.2.1), (13, .slice none 0 0), (14, .int .i64 q.1)])
    (fun q => [OwnSl 27 1 q.2.1 q.1 q.2.2.1 ((as'.take q.1).map encI), OwnSl 27 1 none 0 0 [], Gr p (S0 6)]) (fun q => q.1 ≤ as'.length ∧ q.2.2.2 = ([c] ++ as'.take q.1).all (hasB (S0 6))) (fun q => as'.length - q.1) (0, none, 0, y0) ⟨Nat.zero_le _, hy0⟩ (by (repeat (first | exact trivial | refine ⟨by rfl, ?_⟩)); done) (by repeat' (first | exact Cover.nil | exact Take.here | apply Cover.cons | apply Take.there)) ?_
  clear hy0 y0
  rintro ⟨k, xa, xc, y⟩ ⟨hk, hy⟩
  dsimp only at hk hy ⊢
  refine g_seq ?_
  refine g_seq ?_
  refine g_region ?_
  refine g_pure (p_move rfl) rfl ?_
  refine g_pure (p_move rfl) rfl ?_
  refine g_pure (p_len (by rfl) rfl) rfl ?_
  refine g_pure (p_lss rfl rfl) rfl ?_
  refine g_nil ?_
  refine g_qt ?_
  refine g_ifd rfl (fun q => ?_) (fun q => ?_)
  · have hkl : k < as'.length := by omega
    obtain ⟨r1, r2, r3⟩ := hra (by omega)
    have e3 := map_take_succ hkl encI
    have e3' : (as'.take k).map encI ++ [Value.int .i64 as'[k]] = (as'.take (k + 1)).map encI := e3
    have hsn := all_snoc hkl (hasB (S0 6)) [c]
    rw [← hy, has6] at hsn
    refine g_skip ?_
    refine g_qt ?_
    refine g_seq ?_
    refine g_block ?_
    refine g_seq ?_
    refine g_region ?_
    refine g_pure (p_move rfl) rfl ?_
    refine g_pure (p_move rfl) rfl ?_
    refine g_pure (p_move rfl) rfl ?_
    refine g_pure (p_indexAddr rfl rfl (by omega) (fun _ => r1)) rfl ?_
    refine g_pure (p_load (by rfl) rfl (Has.ro r2) (r3 k hkl)) rfl ?_
    refine g_eff (e_bs (xs := [.tmp 53]) rfl rfl rfl (by rfl) (by rfl) rfl (by rfl)) rfl (fun _ _ => ?_)
    rintro ⟨b54, rfl, rfl⟩
    refine g_eff (e_appendO (xs := (as'.take k).map encI) (a1 := xa) (k := k) (cap := xc) (by rfl) (by rfl) rfl rfl (by first | (apply Has.own; (repeat' (first | exact Take.here | apply Take.there)); done)) (by rfl) (by rfl) (by repeat' (first | exact Take.here | apply Take.there)) (by omega) (by dsimp only; omega) (by omega)) rfl (fun _ _ => ?_)
    rintro ⟨a55, c55, rfl, rfl⟩
    refine g_pure (p_assign rfl) rfl ?_
    refine g_nil ?_
    refine g_qt ?_
    refine g_region ?_
    refine g_pure (p_move rfl) rfl ?_
    refine g_pure (p_move rfl) rfl ?_
    rw [e3']
    cases y with
    | false =>
      refine g_no rfl rfl rfl rfl ?_
      refine g_no rfl rfl rfl rfl ?_
      refine g_no rfl rfl rfl rfl ?_
      refine g_no rfl rfl rfl rfl ?_
      refine g_no rfl rfl rfl rfl ?_
      first | refine g_pure (p_pickt rfl rfl) rfl ?_ | refine g_pure (p_pickf rfl rfl) rfl ?_
      refine g_pure (p_move rfl) rfl ?_
      refine g_no rfl rfl rfl rfl ?_
      refine g_no rfl rfl rfl rfl ?_
      refine g_no rfl rfl rfl rfl ?_
      refine g_no rfl rfl rfl rfl ?_
      refine g_no rfl rfl rfl rfl ?_
      first | refine g_pure (p_pickt rfl rfl) rfl ?_ | refine g_pure (p_pickf rfl rfl) rfl ?_
      refine g_pure (p_assign rfl) rfl ?_
      refine g_nil ?_
      refine g_qb ?_
      refine g_qt ?_
      refine g_region ?_
      refine g_pure (p_move rfl) rfl ?_
      first | refine g_pure (p_addi rfl rfl (by omega)) rfl ?_ | refine g_pure (p_add rfl rfl) rfl ?_
      refine g_pure (p_assign rfl) rfl ?_
      refine g_nil ?_
      refine g_qn ?_
      exact g_next (k + 1, a55, c55, false) (by (repeat (first | exact trivial | refine ⟨by rfl, ?_⟩)); done) (by repeat' (first | exact Cover.nil | exact Take.here | apply Cover.cons | apply Take.there)) ⟨by dsimp only; omega, by rw [hsn]; rfl⟩ (by dsimp only; omega)
    | true =>
      refine g_yes rfl rfl ?_
      refine g_pure (p_move rfl) rfl ?_
      refine g_yes rfl rfl ?_
      refine g_pure (p_move rfl) rfl ?_
      refine g_yes rfl rfl ?_
      refine g_pure (p_indexAddr rfl rfl (by omega) (fun _ => r1)) rfl ?_
      refine g_yes rfl rfl ?_
      refine g_pure (p_load (by rfl) rfl (Has.ro r2) (r3 k hkl)) rfl ?_
      refine g_yes rfl rfl ?_
      refine g_pure (p_geq rfl rfl) rfl ?_
      first | refine g_pure (p_pickt rfl rfl) rfl ?_ | refine g_pure (p_pickf rfl rfl) rfl ?_
      refine g_pure (p_move rfl) rfl ?_
      refine g_splitd rfl rfl (fun g => ?_) (fun g => ?_)
      · refine g_yes rfl rfl ?_
        refine g_pure (p_move rfl) rfl ?_
        refine g_yes rfl rfl ?_
        refine g_pure (p_move rfl) rfl ?_
        refine g_yes rfl rfl ?_
        refine g_pure (p_indexAddr rfl rfl (by omega) (fun _ => r1)) rfl ?_
        refine g_yes rfl rfl ?_
        refine g_pure (p_load (by rfl) rfl (Has.ro r2) (r3 k hkl)) rfl ?_
        refine g_yes rfl rfl ?_
        refine g_pure (p_lss rfl rfl) rfl ?_
        first | refine g_pure (p_pickt rfl rfl) rfl ?_ | refine g_pure (p_pickf rfl rfl) rfl ?_
        refine g_pure (p_assign rfl) rfl ?_
        refine g_nil ?_
        refine g_qb ?_
        refine g_qt ?_
        refine g_region ?_
        refine g_pure (p_move rfl) rfl ?_
        first | refine g_pure (p_addi rfl rfl (by omega)) rfl ?_ | refine g_pure (p_add rfl rfl) rfl ?_
        refine g_pure (p_assign rfl) rfl ?_
        refine g_nil ?_
        refine g_qn ?_
        exact g_next (k + 1, a55, c55, _) ⟨rfl, rfl, rfl, rfl, rfl, rfl, rfl, rfl, rfl, trivial⟩ (by repeat' (first | exact Cover.nil | exact Take.here | apply Cover.cons | apply Take.there)) ⟨by dsimp only; omega, by dsimp only; rw [hsn]; exact decide_eq_decide.2 (by omega)⟩ (by dsimp only; omega)
      · refine g_no rfl rfl rfl rfl ?_
        refine g_no rfl rfl rfl rfl ?_
        refine g_no rfl rfl rfl rfl ?_
        refine g_no rfl rfl rfl rfl ?_
        refine g_no rfl rfl rfl rfl ?_
        first | refine g_pure (p_pickt rfl rfl) rfl ?_ | refine g_pure (p_pickf rfl rfl) rfl ?_
        refine g_pure (p_assign rfl) rfl ?_
        refine g_nil ?_
        refine g_qb ?_
        refine g_qt ?_
        refine g_region ?_
        refine g_pure (p_move rfl) rfl ?_
        first | refine g_pure (p_addi rfl rfl (by omega)) rfl ?_ | refine g_pure (p_add rfl rfl) rfl ?_
        refine g_pure (p_assign rfl) rfl ?_
        refine g_nil ?_
        refine g_qn ?_
        exact g_next (k + 1, a55, c55, false) (by (repeat (first | exact trivial | refine ⟨by rfl, ?_⟩)); done) (by repeat' (first | exact Cover.nil | exact Take.here | apply Cover.cons | apply Take.there)) ⟨by dsimp only; omega, by dsimp only; rw [hsn]; exact (decide_eq_false (by omega)).symm⟩ (by dsimp only; omega)
  · have hke : k = as'.length := by omega
    subst hke
    rw [List.take_of_length_le (Nat.le_refl _)] at hy ⊢
    refine g_exit ?_
    refine g_qt_exit ?_
    refine g_qn_exit ?_
    refine g_qb_exit ?_
    refine g_qt ?_
    refine g_seq ?_
    refine g_seq ?_
    refine g_region ?_
    refine g_pure (p_assign rfl) rfl ?_
    refine g_nil ?_
    refine g_qt ?_
    refine g_block ?_
    refine g_loop (fun q : Nat × Option Addr × Nat × Bool => [(0, .int .i64 c), (1, .slice aa as'.length ac), (2, .slice ba bs.length bc), (3, .int .u8 inb), (9, .pointer (some ⟨p, 0, none⟩)), (11, .bool q.2.2.2), (12, .slice xa as'.length xc), (13, .slice q.2.1 q.1 q.2.2.1), (15, .int .i64 q.1)])
      (fun q => [OwnSl 27 1 q.2.1 q.1 q.2.2.1 ((bs.take q.1).map encI), OwnSl 27 1 xa as'.length xc (as'.map encI), Gr p (S0 6)]) (fun q => q.1 ≤ bs.length ∧ q.2.2.2 = (([c] ++ as') ++ bs.take q.1).all (hasB (S0 6))) (fun q => bs.length - q.1) (0, none, 0, y) ⟨Nat.zero_le _, by rw [hy]; simp⟩ (by (repeat (first | exact trivial | refine ⟨by rfl, ?_⟩)); done) (by repeat' (first | exact Cover.nil | exact Take.here | apply Cover.cons | apply Take.there)) ?_
    clear hy y
    rintro ⟨k, ya, yc, y⟩ ⟨hk, hy⟩
    dsimp only at hk hy ⊢
    refine g_seq ?_
    refine g_seq ?_
    refine g_region ?_
    refine g_pure (p_move rfl) rfl ?_
    refine g_pure (p_move rfl) rfl ?_
    refine g_pure (p_len (by rfl) rfl) rfl ?_
    refine g_pure (p_lss rfl rfl) rfl ?_
    refine g_nil ?_
    refine g_qt ?_
    refine g_ifd rfl (fun q => ?_) (fun q => ?_)
    · have hkl : k < bs.length := by omega
      obtain ⟨r1, r2, r3⟩ := hrb (by omega)
      have e3 := map_take_succ hkl encI
      have e3' : (bs.take k).map encI ++ [Value.int .i64 bs[k]] = (bs.take (k + 1)).map encI := e3
      have hsn := all_snoc hkl (hasB (S0 6)) ([c] ++ as')
      rw [← hy, has6] at hsn
      refine g_skip ?_
      refine g_qt ?_
      refine g_seq ?_
      refine g_block ?_
      refine g_seq ?_
      refine g_region ?_
      refine g_pure (p_move rfl) rfl ?_
      refine g_pure (p_move rfl) rfl ?_
      refine g_pure (p_move rfl) rfl ?_
      refine g_pure (p_indexAddr rfl rfl (by omega) (fun _ => r1)) rfl ?_
      refine g_pure (p_load (by rfl) rfl (Has.ro r2) (r3 k hkl)) rfl ?_
      refine g_eff (e_bs (xs := [.tmp 81]) rfl rfl rfl (by rfl) (by rfl) rfl (by rfl)) rfl (fun _ _ => ?_)
      rintro ⟨b82, rfl, rfl⟩
      refine g_eff (e_appendO (xs := (bs.take k).map encI) (a1 := ya) (k := k) (cap := yc) (by rfl) (by rfl) rfl rfl (by first | (apply Has.own; (repeat' (first | exact Take.here | apply Take.there)); done)) (by rfl) (by rfl) (by repeat' (first | exact Take.here | apply Take.there)) (by omega) (by dsimp only; omega) (by omega)) rfl (fun _ _ => ?_)
      rintro ⟨a83, c83, rfl, rfl⟩
      refine g_pure (p_assign rfl) rfl ?_
      refine g_nil ?_
      refine g_qt ?_
      refine g_region ?_
      refine g_pure (p_move rfl) rfl ?_
      refine g_pure (p_move rfl) rfl ?_
      rw [e3']
      cases y with
      | false =>
        refine g_no rfl rfl rfl rfl ?_
        refine g_no rfl rfl rfl rfl ?_
        refine g_no rfl rfl rfl rfl ?_
        refine g_no rfl rfl rfl rfl ?_
        refine g_no rfl rfl rfl rfl ?_
        first | refine g_pure (p_pickt rfl rfl) rfl ?_ | refine g_pure (p_pickf rfl rfl) rfl ?_
        refine g_pure (p_move rfl) rfl ?_
        refine g_no rfl rfl rfl rfl ?_
        refine g_no rfl rfl rfl rfl ?_
        refine g_no rfl rfl rfl rfl ?_
        refine g_no rfl rfl rfl rfl ?_
        refine g_no rfl rfl rfl rfl ?_
        first | refine g_pure (p_pickt rfl rfl) rfl ?_ | refine g_pure (p_pickf rfl rfl) rfl ?_
        refine g_pure (p_assign rfl) rfl ?_
        refine g_nil ?_
        refine g_qb ?_
        refine g_qt ?_
        refine g_region ?_
        refine g_pure (p_move rfl) rfl ?_
        first | refine g_pure (p_addi rfl rfl (by omega)) rfl ?_ | refine g_pure (p_add rfl rfl) rfl ?_
        refine g_pure (p_assign rfl) rfl ?_
        refine g_nil ?_
        refine g_qn ?_
        exact g_next (k + 1, a83, c83, false) (by (repeat (first | exact trivial | refine ⟨by rfl, ?_⟩)); done) (by repeat' (first | exact Cover.nil | exact Take.here | apply Cover.cons | apply Take.there)) ⟨by dsimp only; omega, by rw [hsn]; rfl⟩ (by dsimp only; omega)
      | true =>
        refine g_yes rfl rfl ?_
        refine g_pure (p_move rfl) rfl ?_
        refine g_yes rfl rfl ?_
        refine g_pure (p_move rfl) rfl ?_
        refine g_yes rfl rfl ?_
        refine g_pure (p_indexAddr rfl rfl (by omega) (fun _ => r1)) rfl ?_
        refine g_yes rfl rfl ?_
        refine g_pure (p_load (by rfl) rfl (Has.ro r2) (r3 k hkl)) rfl ?_
        refine g_yes rfl rfl ?_
        refine g_pure (p_geq rfl rfl) rfl ?_
        first | refine g_pure (p_pickt rfl rfl) rfl ?_ | refine g_pure (p_pickf rfl rfl) rfl ?_
        refine g_pure (p_move rfl) rfl ?_
        refine g_splitd rfl rfl (fun g => ?_) (fun g => ?_)
        · refine g_yes rfl rfl ?_
          refine g_pure (p_move rfl) rfl ?_
          refine g_yes rfl rfl ?_
          refine g_pure (p_move rfl) rfl ?_
          refine g_yes rfl rfl ?_
          refine g_pure (p_indexAddr rfl rfl (by omega) (fun _ => r1)) rfl ?_
          refine g_yes rfl rfl ?_
          refine g_pure (p_load (by rfl) rfl (Has.ro r2) (r3 k hkl)) rfl ?_
          refine g_yes rfl rfl ?_
          refine g_pure (p_lss rfl rfl) rfl ?_
          first | refine g_pure (p_pickt rfl rfl) rfl ?_ | refine g_pure (p_pickf rfl rfl) rfl ?_
          refine g_pure (p_assign rfl) rfl ?_
          refine g_nil ?_
          refine g_qb ?_
          refine g_qt ?_
          refine g_region ?_
          refine g_pure (p_move rfl) rfl ?_
          first | refine g_pure (p_addi rfl rfl (by omega)) rfl ?_ | refine g_pure (p_add rfl rfl) rfl ?_
          refine g_pure (p_assign rfl) rfl ?_
          refine g_nil ?_
          refine g_qn ?_
          exact g_next (k + 1, a83, c83, _) ⟨rfl, rfl, rfl, rfl, rfl, rfl, rfl, rfl, rfl, trivial⟩ (by repeat' (first | exact Cover.nil | exact Take.here | apply Cover.cons | apply Take.there)) ⟨by dsimp only; omega, by dsimp only; rw [hsn]; exact decide_eq_decide.2 (by omega)⟩ (by dsimp only; omega)
        · refine g_no rfl rfl rfl rfl ?_
          refine g_no rfl rfl rfl rfl ?_
          refine g_no rfl rfl rfl rfl ?_
          refine g_no rfl rfl rfl rfl ?_
          refine g_no rfl rfl rfl rfl ?_
          first | refine g_pure (p_pickt rfl rfl) rfl ?_ | refine g_pure (p_pickf rfl rfl) rfl ?_
          refine g_pure (p_assign rfl) rfl ?_
          refine g_nil ?_
          refine g_qb ?_
          refine g_qt ?_
          refine g_region ?_
          refine g_pure (p_move rfl) rfl ?_
          first | refine g_pure (p_addi rfl rfl (by omega)) rfl ?_ | refine g_pure (p_add rfl rfl) rfl ?_
          refine g_pure (p_assign rfl) rfl ?_
          refine g_nil ?_
          refine g_qn ?_
          exact g_next (k + 1, a83, c83, false) (by (repeat (first | exact trivial | refine ⟨by rfl, ?_⟩)); done) (by repeat' (first | exact Cover.nil | exact Take.here | apply Cover.cons | apply Take.there)) ⟨by dsimp only; omega, by dsimp only; rw [hsn]; exact (decide_eq_false (by omega)).symm⟩ (by dsimp only; omega)
    · have hke : k = bs.length := by omega
      subst hke
      rw [List.take_of_length_le (Nat.le_refl _)] at hy ⊢
      refine g_exit ?_
      refine g_qt_exit ?_
      refine g_qn_exit ?_
      refine g_qb_exit ?_
      refine g_qt ?_
      refine g_seq ?_
      refine g_region ?_
      refine g_pure (p_move rfl) rfl ?_
      refine g_pure (p_move rfl) rfl ?_
      refine g_pure (p_move rfl) rfl ?_
      refine g_pure (p_move rfl) rfl ?_
      by_cases hnm : as'.length = bs.length
      · obtain ⟨n, hn1⟩ : ∃ n, as'.length = n := ⟨_, rfl⟩
        have hn2 : bs.length = n := by omega
        rw [hn1] at ha ⊢
        rw [hn2] at hb ⊢
        have hn20 : n ≤ 20 := by omega
        cases y with
        | false =>
          refine g_call (Hin := [Gr p (S0 6)]) (Hr := ?hr4) (R := ?rr4) rfl rfl rfl ?hin4 ?hc4 ?hk4
          case hin4 => repeat' (first | exact Cover.nil | exact Take.here | apply Cover.cons | apply Take.there)
          case hc4 => intro ρ' hρ hR; exact mux_range p hw0 hc hn1 hn2 (by omega) (RSl.of_own (Take.ro (A := OwnSl 27 1 xa n xc (as'.map encI)) (by repeat' (first | exact Take.here | apply Take.there)) hR)) (RSl.of_own (Take.ro (A := OwnSl 27 1 ya n yc (bs.map encI)) (by repeat' (first | exact Take.here | apply Take.there)) hR)) hai hbi hy.symm
          rintro _ _ ⟨rfl, rfl⟩
          refine g_pure (p_move rfl) rfl ?_
          refine g_pure (p_extract rfl rfl) rfl ?_
          refine g_pure (p_extract rfl rfl) rfl ?_
          refine g_pure (p_assign rfl) rfl ?_
          refine g_pure (p_assign rfl) rfl ?_
          refine g_nil ?_
          refine g_qt ?_
          refine g_seq ?_
          refine g_seq ?_
          refine g_region ?_
          refine g_pure (p_move rfl) rfl ?_
          refine g_pure (p_len (by rfl) rfl) rfl ?_
          refine g_pure (p_move rfl) rfl ?_
          refine g_pure (p_len (by rfl) rfl) rfl ?_
          refine g_pure (p_neqF rfl rfl rfl) rfl ?_
          refine g_nil ?_
          refine g_qt ?_
          refine g_iff rfl ?_
          refine g_skip ?_
          refine g_qt ?_
          refine g_seq ?_
          refine g_seq ?_
          refine g_region ?_
          refine g_pure (p_move rfl) rfl ?_
          refine g_pure (p_not rfl) rfl ?_
          refine g_nil ?_
          refine g_qt ?_
          refine g_ift rfl ?_
          refine g_seq ?_
          refine g_region ?_
          refine g_pure (p_move rfl) rfl ?_
          refine g_pure (p_eqlT rfl rfl rfl) rfl ?_
          refine g_pure (p_move rfl) rfl ?_
          refine g_yes rfl rfl ?_
          refine g_pure (p_move rfl) rfl ?_
          refine g_yes rfl rfl ?_
          refine g_pure (p_len (by rfl) rfl) rfl ?_
          refine g_yes rfl rfl ?_
          refine g_pure (p_eqlT rfl rfl rfl) rfl ?_
          first | refine g_pure (p_pickt rfl rfl) rfl ?_ | refine g_pure (p_pickf rfl rfl) rfl ?_
          refine g_pure (p_move rfl) rfl ?_
          refine g_yes rfl rfl ?_
          refine g_pure (p_move rfl) rfl ?_
          refine g_yes rfl rfl ?_
          refine g_call (Hin := []) (Hr := ?hr5) (R := ?rr5) rfl rfl rfl ?hin5 ?hc5 ?hk5
          case hin5 => repeat' (first | exact Cover.nil | exact Take.here | apply Cover.cons | apply Take.there)
          case hc5 => intro ρ' hρ hR; exact glen_ok p (S0 6) (Take.ro (A := Gr p (S0 6)) (by repeat' (first | exact Take.here | apply Take.there)) hR)
          rintro _ _ ⟨rfl, rfl⟩
          refine g_yes rfl rfl ?_
          refine g_pure (p_eqlT rfl rfl rfl) rfl ?_
          first | refine g_pure (p_pickt rfl rfl) rfl ?_ | refine g_pure (p_pickf rfl rfl) rfl ?_
          refine g_pure (p_move rfl) rfl ?_
          refine g_yes rfl rfl ?_
          refine g_call (Hin := []) (Hr := ?hr6) (R := ?rr6) rfl rfl rfl ?hin6 ?hc6 ?hk6
          case hin6 => repeat' (first | exact Cover.nil | exact Take.here | apply Cover.cons | apply Take.there)
          case hc6 => intro ρ' hρ hR; exact blives_ok
          rintro _ _ ⟨rfl, rfl⟩
          first | refine g_pure (p_pickt rfl rfl) rfl ?_ | refine g_pure (p_pickf rfl rfl) rfl ?_
          refine g_pure (p_assign rfl) rfl ?_
          refine g_nil ?_
          refine g_qt ?_
          refine g_ret ?_
          refine g_qt_ret ?_
          exact g_post (Ho := []) (rs := [.tmp 8]) rfl (.tmp rfl .nil) rfl .nil
        | true =>
          refine g_call (Hin := [Gr p (S0 6)]) (Hr := ?hr7) (R := ?rr7) rfl rfl rfl ?hin7 ?hc7 ?hk7
          case hin7 => repeat' (first | exact Cover.nil | exact Take.here | apply Cover.cons | apply Take.there)
          case hc7 => intro ρ' hρ hR; exact mux_yes p hw0 (by omega) hn1 hn2 (by omega) (RSl.of_own (Take.ro (A := OwnSl 27 1 xa n xc (as'.map encI)) (by repeat' (first | exact Take.here | apply Take.there)) hR)) (RSl.of_own (Take.ro (A := OwnSl 27 1 ya n yc (bs.map encI)) (by repeat' (first | exact Take.here | apply Take.there)) hR)) hy.symm
          rintro _ _ ⟨oa, oc, out, T, rfl, rfl, ho, u, d⟩
          have hall := List.all_eq_true.1 hy.symm
          have hch : has (S0 6) c := hasB_iff.1 (hall c (by simp))
          have dc : Den (S0 6) c (fun i => litv (vals (S0 6) i) c) := ⟨hch, fun _ => rfl⟩
          have dx : DenL (S0 6) as' (fun i => as'.map (litv (vals (S0 6) i))) := den_self fun l h => hasB_iff.1 (hall l (by simp [h]))
          have dy : DenL (S0 6) bs (fun i => bs.map (litv (vals (S0 6) i))) := den_self fun l h => hasB_iff.1 (hall l (by simp [h]))
          have dall := (((DenL.one dc).app dx).app dy).up hw0 u |>.app d
          refine g_pure (p_move rfl) rfl ?_
          refine g_pure (p_extract rfl rfl) rfl ?_
          refine g_pure (p_extract rfl rfl) rfl ?_
          refine g_pure (p_assign rfl) rfl ?_
          refine g_pure (p_assign rfl) rfl ?_
          refine g_nil ?_
          refine g_qt ?_
          refine g_seq ?_
          refine g_seq ?_
          refine g_region ?_
          refine g_pure (p_move rfl) rfl ?_
          refine g_pure (p_len (by rfl) rfl) rfl ?_
          refine g_pure (p_move rfl) rfl ?_
          refine g_pure (p_len (by rfl) rfl) rfl ?_
          refine g_pure (p_neqF rfl rfl rfl) rfl ?_
          refine g_nil ?_
          refine g_qt ?_
          refine g_iff rfl ?_
          refine g_skip ?_
          refine g_qt ?_
          refine g_seq ?_
          refine g_seq ?_
          refine g_region ?_
          refine g_pure (p_move rfl) rfl ?_
          refine g_pure (p_not rfl) rfl ?_
          refine g_nil ?_
          refine g_qt ?_
          refine g_iff rfl ?_
          refine g_skip ?_
          refine g_qt ?_
          refine g_seq ?_
          refine g_region ?_
          refine g_pure (p_move rfl) rfl ?_
          first | refine g_pure (p_convi (by rfl) rfl (by omega)) rfl ?_ | refine g_pure (p_conv (by rfl) rfl) rfl ?_
          refine g_call (Hin := []) (Hr := ?hr8) (R := ?rr8) rfl rfl rfl ?hin8 ?hc8 ?hk8
          case hin8 => repeat' (first | exact Cover.nil | exact Take.here | apply Cover.cons | apply Take.there)
          case hc8 => intro ρ' hρ hR; exact dbits_ok inb (by unfold I64; omega) 6 (by omega)
          rintro _ _ ⟨ea, ec, rfl, rfl⟩
          refine g_pure (p_assign rfl) rfl ?_
          refine g_nil ?_
          refine g_qt ?_
          refine g_seq ?_
          refine g_region ?_
          refine g_pure (p_move rfl) rfl ?_
          refine g_pure (p_move rfl) rfl ?_
          refine g_pure (p_move rfl) rfl ?_
          refine g_eff (e_bs (xs := [.tmp 145]) rfl rfl rfl (by rfl) (by rfl) rfl (by rfl)) rfl (fun _ _ => ?_)
          rintro ⟨b146, rfl, rfl⟩
          refine g_pure (p_move rfl) rfl ?_
          refine own_of_lit (e := 27) (b := b146) (v := .int .i64 c) (by repeat' (first | exact Take.here | apply Take.there)) ?_
          refine g_eff (e_appendS (news := as'.map encI) (by rfl) (by rfl) rfl rfl (slAt_own (xs := as'.map encI) (a := xa) (k := n) (cap := xc) (by repeat' (first | exact Take.here | apply Take.there))) (ones _) (xs := [.int .i64 c]) (by repeat' (first | exact Take.here | apply Take.there)) (by dsimp only; omega) (by omega)) rfl (fun _ _ => ?_)
          rintro ⟨f1, g1, rfl, rfl⟩
          refine g_pure (p_move rfl) rfl ?_
          refine g_eff (e_appendS (news := bs.map encI) (by rfl) (by rfl) rfl rfl (slAt_own (xs := bs.map encI) (a := ya) (k := n) (cap := yc) (by repeat' (first | exact Take.here | apply Take.there))) (ones _) (xs := [.int .i64 c] ++ as'.map encI) (by repeat' (first | exact Take.here | apply Take.there)) (by dsimp only; omega) (by omega)) rfl (fun _ _ => ?_)
          rintro ⟨f2, g2, rfl, rfl⟩
          refine g_pure (p_move rfl) rfl ?_
          refine g_eff (e_appendS (news := out.map encI) (by rfl) (by rfl) rfl rfl (slAt_own (xs := out.map encI) (a := oa) (k := n) (cap := oc) (by repeat' (first | exact Take.here | apply Take.there))) (ones _) (xs := [.int .i64 c] ++ as'.map encI ++ bs.map encI) (by repeat' (first | exact Take.here | apply Take.there)) (by dsimp only; omega) (by omega)) rfl (fun _ _ => ?_)
          rintro ⟨f3, g3, rfl, rfl⟩
          have eall : [Value.int .i64 c] ++ as'.map encI ++ bs.map encI ++ out.map encI = ([c] ++ as' ++ bs ++ out).map encI := by simp [encI]
          have hlen : ([c] ++ as' ++ bs ++ out).length = 1 + n + n + n := by simp; omega
          rw [eall]
          have hinp : (bitsR 6 inb).length = 6 := bitsR_len 6 inb
          have hev := eval_up u hinp dall
          have hAl : (as'.map (litv (vals (S0 6) (bitsR 6 inb)))).length = n := by rw [List.length_map]; exact hn1
          have hBl : (bs.map (litv (vals (S0 6) (bitsR 6 inb)))).length = n := by rw [List.length_map]; exact hn2
          rw [muxF_eq _ (by rw [hAl, hBl])] at hev
          generalize as'.map (litv (vals (S0 6) (bitsR 6 inb))) = A at hAl hev
          generalize bs.map (litv (vals (S0 6) (bitsR 6 inb))) = B at hBl hev
          generalize litv (vals (S0 6) (bitsR 6 inb)) c = bit at hev
          obtain ⟨C, hC⟩ : ∃ C, C = if bit then A else B := ⟨_, rfl⟩
          rw [← hC] at hev
          have hCl : C.length = n := by rw [hC]; split <;> assumption
          generalize [c] ++ as' ++ bs ++ out = lall at hlen dall hev ⊢
          have hPl : ([bit] ++ A ++ B ++ C).length = 1 + n + n + n := by simp; omega
          have hP1 : (([bit] ++ A ++ B ++ C).drop 1).take n = A := by rw [← hAl]; simp
          have hP2 : (([bit] ++ A ++ B ++ C).drop (1 + n)).take n = B := by
            rw [show 1 + n = ([bit] ++ A).length by simp; omega, List.append_assoc ([bit] ++ A), List.drop_left, ← hBl, List.take_left]
          have hP3 : (([bit] ++ A ++ B ++ C).drop (1 + 2 * n)).take n = C := by
            rw [show 1 + 2 * n = ([bit] ++ A ++ B).length by simp; omega, List.drop_left, ← hCl, List.take_length]
          have hP0 : (([bit] ++ A ++ B ++ C).map encB)[0]? = some (.bool bit) := rfl
          generalize [bit] ++ A ++ B ++ C = P at hev hPl hP1 hP2 hP3 hP0
          refine g_call (Hin := []) (Hr := ?hr9) (R := ?rr9) rfl rfl rfl ?hin9 ?hc9 ?hk9
          case hin9 => repeat' (first | exact Cover.nil | exact Take.here | apply Cover.cons | apply Take.there)
          case hc9 => intro ρ' hρ hR; exact (by have := eval_at (ρ := ρ') (p := p) (ia := ea) (ic := ec) (al := f3) (cl := g3) hev (by rw [hinp]; exact RSl.of_own (Take.ro (A := OwnSl 4 1 ea 6 ec ((bitsR 6 inb).map encB)) (by repeat' (first | exact Take.here | apply Take.there)) hR)) (by rw [hlen]; exact RSl.of_own (Take.ro (A := OwnSl 27 1 f3 (1 + n + n + n) g3 (lall.map encI)) (by repeat' (first | exact Take.here | apply Take.there)) hR)) (by omega) (by omega) (i64_of u.wf dall) (Take.ro (A := Gr p T) (by repeat' (first | exact Take.here | apply Take.there)) hR); rw [hinp, hlen, hPl] at this; exact this)
          rintro _ _ ⟨pa, pc, rfl, rfl⟩
          refine g_pure (p_move rfl) rfl ?_
          refine g_pure (p_extract rfl rfl) rfl ?_
          refine g_pure (p_extract rfl rfl) rfl ?_
          refine g_pure (p_assign rfl) rfl ?_
          refine g_pure (p_assign rfl) rfl ?_
          refine g_nil ?_
          refine g_qt ?_
          refine g_seq ?_
          refine g_seq ?_
          refine g_region ?_
          refine g_pure (p_move rfl) rfl ?_
          refine g_pure (p_neqF rfl rfl rfl) rfl ?_
          refine g_pure (p_move rfl) rfl ?_
          refine g_yes rfl rfl ?_
          refine g_pure (p_move rfl) rfl ?_
          refine g_yes rfl rfl ?_
          refine g_pure (p_neqF rfl rfl rfl) rfl ?_
          first | refine g_pure (p_pickt rfl rfl) rfl ?_ | refine g_pure (p_pickf rfl rfl) rfl ?_
          refine g_pure (p_move rfl) rfl ?_
          refine g_yes rfl rfl ?_
          refine g_pure (p_move rfl) rfl ?_
          refine g_yes rfl rfl ?_
          refine g_pure (p_len (by rfl) rfl) rfl ?_
          refine g_yes rfl rfl ?_
          refine g_pure (p_move rfl) rfl ?_
          refine g_yes rfl rfl ?_
          refine g_pure (p_len (by rfl) rfl) rfl ?_
          refine g_yes rfl rfl ?_
          refine g_pure (p_neqF rfl rfl rfl) rfl ?_
          first | refine g_pure (p_pickt rfl rfl) rfl ?_ | refine g_pure (p_pickf rfl rfl) rfl ?_
          refine g_pure (p_move rfl) rfl ?_
          refine g_yes rfl rfl ?_
          refine g_pure (p_move rfl) rfl ?_
          refine g_yes rfl rfl ?_
          refine g_pure (p_len (by rfl) rfl) rfl ?_
          refine g_yes rfl rfl ?_
          refine g_pure (p_move rfl) rfl ?_
          refine g_yes rfl rfl ?_
          refine g_pure (p_len (by rfl) rfl) rfl ?_
          refine g_yes rfl rfl ?_
          first | refine g_pure (p_muli rfl rfl (by omega)) rfl ?_ | refine g_pure (p_mul rfl rfl) rfl ?_
          refine g_yes rfl rfl ?_
          first | refine g_pure (p_addi rfl rfl (by omega)) rfl ?_ | refine g_pure (p_add rfl rfl) rfl ?_
          refine g_yes rfl rfl ?_
          refine g_pure (p_neqF rfl rfl (by omega)) rfl ?_
          first | refine g_pure (p_pickt rfl rfl) rfl ?_ | refine g_pure (p_pickf rfl rfl) rfl ?_
          refine g_nil ?_
          refine g_qt ?_
          refine g_iff rfl ?_
          refine g_skip ?_
          refine g_qt ?_
          refine g_seq ?_
          refine g_region ?_
          refine g_pure (p_move rfl) rfl ?_
          refine g_pure (p_len (by rfl) rfl) rfl ?_
          refine g_pure (p_assign rfl) rfl ?_
          refine g_nil ?_
          refine g_qt ?_
          refine g_seq ?_
          refine g_seq ?_
          refine g_own (e := 4) (a1 := pa) (k := 1 + n + n + n) (cap := pc) (xs := P.map encB) (by repeat' (first | exact Take.here | apply Take.there)) (fun _ h2 _ _ => absurd h2 (by omega)) ?_
          rintro gp curp rfl x1 x2 x3 x4 x5
          have hx0 : curp[0 + (0 : Int).toNat * 1]? = some (.bool bit) := own_at (k := 0) x4 rfl hP0
          refine g_region ?_
          refine g_pure (p_move rfl) rfl ?_
          refine g_pure (p_indexAddr rfl rfl (by omega) (fun _ => rfl)) rfl ?_
          refine g_pure (p_load (by rfl) rfl (Has.own (by repeat' (first | exact Take.here | apply Take.there))) hx0) rfl ?_
          refine g_nil ?_
          refine g_qt ?_
          refine g_fold (e := 4) (g := gp) (k := 1 + n + n + n) (cap := pc) (size := 1) (xs := P.map encB) (by repeat' (first | exact Take.here | apply Take.there)) x1 x2 x3 x4 ?_
          have t12 : (1 + 2 * (n : Int)).toNat = 1 + 2 * n := by omega
          have t1n : (1 + (n : Int)).toNat = 1 + n := by omega
          cases bit with
          | true =>
            obtain rfl : C = A := hC
            refine g_ift rfl ?_
            refine g_seq ?_
            refine m_begin0 (.fl 0 0 (.fl 1 0 (.fl 2 0 (.fl 3 0 (.fl 4 0 (.fl 5 0 (.fl 6 0 (.fl 7 0 (.fl 8 0 (.ef 9 (.fl 10 0 (.ef 11 (.fl 12 0 (.fl 13 0 .done)))))))))))))) (by kernel_rfl) (by kernel_rfl) ?_
            refine m_float0 rfl (fun _ _ => p_move rfl) rfl ?_
            refine m_float0 rfl (fun _ _ => p_move rfl) rfl ?_
            first | refine m_float0 rfl (fun _ _ => p_muli rfl rfl (by omega)) rfl ?_ | refine m_float0 rfl (fun _ _ => p_mul rfl rfl) rfl ?_
            first | refine m_float0 rfl (fun _ _ => p_addi rfl rfl (by omega)) rfl ?_ | refine m_float0 rfl (fun _ _ => p_add rfl rfl) rfl ?_
            refine m_float0 rfl (fun _ _ => p_slicel rfl rfl (by omega)) rfl ?_
            refine m_float0 rfl (fun _ _ => p_move rfl) rfl ?_
            refine m_float0 rfl (fun _ _ => p_move rfl) rfl ?_
            first | refine m_float0 rfl (fun _ _ => p_addi rfl rfl (by omega)) rfl ?_ | refine m_float0 rfl (fun _ _ => p_add rfl rfl) rfl ?_
            refine m_float0 rfl (fun _ _ => p_slicelh rfl rfl rfl (by omega) (by omega)) rfl ?_
            rw [t12, t1n, show 1 + n + n + n - (1 + 2 * n) = n by omega, show 1 + n - (1 : Int).toNat = n by show 1 + n - 1 = n; omega]
            refine m_call (Hin := []) (Hr := ?hr10) (R := ?rr10) rfl wantedN rfl rfl rfl ?hin10 ?hc10 ?hk10
            case hin10 => repeat' (first | exact Cover.nil | exact Take.here | apply Cover.cons | apply Take.there)
            case hc10 => intro ρ' hρ hR; exact bools_n hAl rfl (by have := rsl_sub (o := 1 + 2 * n) (k := n) (ad := if pc = 1 + 2 * n then some ⟨gp, 0, none⟩ else (some ⟨gp, 0, none⟩ : Option Addr).map (·.add ((1 + 2 * n) * 1))) (RSl.of_own (Take.ro (A := OwnSl 4 1 (some ⟨gp, 0, none⟩) (1 + n + n + n) pc (P.map encB)) (by repeat' (first | exact Take.here | apply Take.there)) hR)) (by omega) (fun h => if_neg (by omega)); rw [← List.map_drop, ← List.map_take, hP3] at this; exact this) (by have := rsl_sub (o := 1) (k := n) (ad := if pc = 1 then some ⟨gp, 0, none⟩ else (some ⟨gp, 0, none⟩ : Option Addr).map (·.add (1 * 1))) (RSl.of_own (Take.ro (A := OwnSl 4 1 (some ⟨gp, 0, none⟩) (1 + n + n + n) pc (P.map encB)) (by repeat' (first | exact Take.here | apply Take.there)) hR)) (by omega) (fun h => if_neg (by omega)); rw [← List.map_drop, ← List.map_take, hP1] at this; exact this) (by omega)
            rintro _ _ ⟨rfl, rfl⟩
            refine ⟨.none (by kernel_rfl), ?_⟩
            refine m_float0 rfl (fun _ _ => p_move rfl) rfl ?_
            refine m_call (Hin := []) (Hr := ?hr11) (R := ?rr11) rfl (wantedY rfl rfl) rfl rfl rfl ?hin11 ?hc11 ?hk11
            case hin11 => repeat' (first | exact Cover.nil | exact Take.here | apply Cover.cons | apply Take.there)
            case hc11 => intro ρ' hρ hR; exact blives_ok
            rintro _ _ ⟨rfl, rfl⟩
            refine ⟨.none (by kernel_rfl), ?_⟩
            first | refine m_float0 rfl (fun _ _ => p_pickt rfl rfl) rfl ?_ | refine m_float0 rfl (fun _ _ => p_pickf rfl rfl) rfl ?_
            refine m_float0 rfl (fun _ _ => p_assign rfl) rfl ?_
            refine m_nil ?_
            refine g_qt ?_
            refine g_ret ?_
            refine g_qt_ret ?_
            exact g_post (Ho := []) (rs := [.tmp 8]) rfl (.tmp rfl .nil) rfl .nil
          | false =>
            obtain rfl : C = B := hC
            refine g_iff rfl ?_
            refine g_skip ?_
            refine g_qt ?_
            refine g_seq ?_
            refine m_begin0 (.fl 0 0 (.fl 1 0 (.fl 2 0 (.fl 3 0 (.fl 4 0 (.fl 5 0 (.fl 6 0 (.fl 7 0 (.fl 8 0 (.fl 9 0 (.fl 10 0 (.fl 11 0 (.ef 12 (.fl 13 0 (.ef 14 (.fl 15 0 (.fl 16 0 .done))))))))))))))))) (by kernel_rfl) (by kernel_rfl) ?_
            refine m_float0 rfl (fun _ _ => p_move rfl) rfl ?_
            refine m_float0 rfl (fun _ _ => p_move rfl) rfl ?_
            first | refine m_float0 rfl (fun _ _ => p_muli rfl rfl (by omega)) rfl ?_ | refine m_float0 rfl (fun _ _ => p_mul rfl rfl) rfl ?_
            first | refine m_float0 rfl (fun _ _ => p_addi rfl rfl (by omega)) rfl ?_ | refine m_float0 rfl (fun _ _ => p_add rfl rfl) rfl ?_
            refine m_float0 rfl (fun _ _ => p_slicel rfl rfl (by omega)) rfl ?_
            refine m_float0 rfl (fun _ _ => p_move rfl) rfl ?_
            refine m_float0 rfl (fun _ _ => p_move rfl) rfl ?_
            first | refine m_float0 rfl (fun _ _ => p_addi rfl rfl (by omega)) rfl ?_ | refine m_float0 rfl (fun _ _ => p_add rfl rfl) rfl ?_
            refine m_float0 rfl (fun _ _ => p_move rfl) rfl ?_
            first | refine m_float0 rfl (fun _ _ => p_muli rfl rfl (by omega)) rfl ?_ | refine m_float0 rfl (fun _ _ => p_mul rfl rfl) rfl ?_
            first | refine m_float0 rfl (fun _ _ => p_addi rfl rfl (by omega)) rfl ?_ | refine m_float0 rfl (fun _ _ => p_add rfl rfl) rfl ?_
            refine m_float0 rfl (fun _ _ => p_slicelh rfl rfl rfl (by omega) (by omega)) rfl ?_
            rw [t12, t1n, show 1 + n + n + n - (1 + 2 * n) = n by omega, show 1 + 2 * n - (1 + n) = n by omega]
            refine m_call (Hin := []) (Hr := ?hr12) (R := ?rr12) rfl wantedN rfl rfl rfl ?hin12 ?hc12 ?hk12
            case hin12 => repeat' (first | exact Cover.nil | exact Take.here | apply Cover.cons | apply Take.there)
            case hc12 => intro ρ' hρ hR; exact bools_n hBl rfl (by have := rsl_sub (o := 1 + 2 * n) (k := n) (ad := if pc = 1 + 2 * n then some ⟨gp, 0, none⟩ else (some ⟨gp, 0, none⟩ : Option Addr).map (·.add ((1 + 2 * n) * 1))) (RSl.of_own (Take.ro (A := OwnSl 4 1 (some ⟨gp, 0, none⟩) (1 + n + n + n) pc (P.map encB)) (by repeat' (first | exact Take.here | apply Take.there)) hR)) (by omega) (fun h => if_neg (by omega)); rw [← List.map_drop, ← List.map_take, hP3] at this; exact this) (by have := rsl_sub (o := 1 + n) (k := n) (ad := if pc = 1 + n then some ⟨gp, 0, none⟩ else (some ⟨gp, 0, none⟩ : Option Addr).map (·.add ((1 + n) * 1))) (RSl.of_own (Take.ro (A := OwnSl 4 1 (some ⟨gp, 0, none⟩) (1 + n + n + n) pc (P.map encB)) (by repeat' (first | exact Take.here | apply Take.there)) hR)) (by omega) (fun h => if_neg (by omega)); rw [← List.map_drop, ← List.map_take, hP2] at this; exact this) (by omega)
            rintro _ _ ⟨rfl, rfl⟩
            refine ⟨.none (by kernel_rfl), ?_⟩
            refine m_float0 rfl (fun _ _ => p_move rfl) rfl ?_
            refine m_call (Hin := []) (Hr := ?hr13) (R := ?rr13) rfl (wantedY rfl rfl) rfl rfl rfl ?hin13 ?hc13 ?hk13
            case hin13 => repeat' (first | exact Cover.nil | exact Take.here | apply Cover.cons | apply Take.there)
            case hc13 => intro ρ' hρ hR; exact blives_ok
            rintro _ _ ⟨rfl, rfl⟩
            refine ⟨.none (by kernel_rfl), ?_⟩
            first | refine m_float0 rfl (fun _ _ => p_pickt rfl rfl) rfl ?_ | refine m_float0 rfl (fun _ _ => p_pickf rfl rfl) rfl ?_
            refine m_float0 rfl (fun _ _ => p_assign rfl) rfl ?_
            refine m_nil ?_
            refine g_qt ?_
            refine g_ret ?_
            exact g_post (Ho := []) (rs := [.tmp 8]) rfl (.tmp rfl .nil) rfl .nil
      · refine g_call (Hin := [Gr p (S0 6)]) (Hr := ?hr14) (R := ?rr14) rfl rfl rfl ?hin14 ?hc14 ?hk14
        case hin14 => repeat' (first | exact Cover.nil | exact Take.here | apply Cover.cons | apply Take.there)
        case hc14 => intro ρ' hρ hR; exact mux_match p hnm
        rintro _ _ ⟨rfl, rfl⟩
        refine g_pure (p_move rfl) rfl ?_
        refine g_pure (p_extract rfl rfl) rfl ?_
        refine g_pure (p_extract rfl rfl) rfl ?_
        refine g_pure (p_assign rfl) rfl ?_
        refine g_pure (p_assign rfl) rfl ?_
        refine g_nil ?_
        refine g_qt ?_
        refine g_seq ?_
        refine g_seq ?_
        refine g_region ?_
        refine g_pure (p_move rfl) rfl ?_
        refine g_pure (p_len (by rfl) rfl) rfl ?_
        refine g_pure (p_move rfl) rfl ?_
        refine g_pure (p_len (by rfl) rfl) rfl ?_
        refine g_pure (p_neqT rfl rfl (by omega)) rfl ?_
        refine g_nil ?_
        refine g_qt ?_
        refine g_ift rfl ?_
        refine g_seq ?_
        refine g_region ?_
        refine g_pure (p_move rfl) rfl ?_
        refine g_pure (p_eqlT rfl rfl rfl) rfl ?_
        refine g_pure (p_move rfl) rfl ?_
        refine g_yes rfl rfl ?_
        refine g_pure (p_move rfl) rfl ?_
        refine g_yes rfl rfl ?_
        refine g_pure (p_len (by rfl) rfl) rfl ?_
        refine g_yes rfl rfl ?_
        refine g_pure (p_eqlT rfl rfl rfl) rfl ?_
        first | refine g_pure (p_pickt rfl rfl) rfl ?_ | refine g_pure (p_pickf rfl rfl) rfl ?_
        refine g_pure (p_move rfl) rfl ?_
        refine g_yes rfl rfl ?_
        refine g_call (Hin := []) (Hr := ?hr15) (R := ?rr15) rfl rfl rfl ?hin15 ?hc15 ?hk15
        case hin15 => repeat' (first | exact Cover.nil | exact Take.here | apply Cover.cons | apply Take.there)
        case hc15 => intro ρ' hρ hR; exact blives_ok
        rintro _ _ ⟨rfl, rfl⟩
        first | refine g_pure (p_pickt rfl rfl) rfl ?_ | refine g_pure (p_pickf rfl rfl) rfl ?_
        refine g_pure (p_assign rfl) rfl ?_
        refine g_nil ?_
        refine g_qt ?_
        refine g_ret ?_
        refine g_qt_ret ?_
        exact g_post (Ho := []) (rs := [.tmp 8]) rfl (.tmp rfl .nil) rfl .nil
end Go.Proofs.Ytkebblmmgcgjkaa
/- BlastMixes. Conditions: none. -/
namespace Go.Z
set_option maxRecDepth 8000
set_option linter.unusedVariables false
set_option linter.unusedSimpArgs false
set_option linter.unusedSectionVars false
open Go
section
variable {P : Program} {n : Nat} {L : Fr} {H : List Assn} {M : Mx} {dd : Option Tmp} {ty : TypeId} {ps : String} {af : Array Edge} {gd : Option (Nat × Bool)} {x : Operand} {k : IntKind} {i : Int}
theorem p_convu {src dst : TypeId} {ys yd : Ty} [hs : TyC P src ys] [hd : TyC P dst yd] (hk : yd.d = .int .u64) (h1 : ev L x = some (.int k i)) (h : 0 ≤ i ∧ i ≤ 9223372036854775807) : Pur P M n L H ⟨dd, .convert src dst x, ty, ps, af, gd⟩ (.int .u64 i) := by
  have := p_conv (P := P) (M := M) (n := n) (H := H) (dd := dd) (ty := ty) (ps := ps) (af := af) (gd := gd) (src := src) (dst := dst) hk h1
  have e : IntKind.u64.wrap i = i := by simp [IntKind.wrap, IntKind.signed, IntKind.bits]; omega
  rwa [e] at this
end
end Go.Z
namespace Go.Proofs.Ytkebblmmgcgjkaa
set_option maxRecDepth 8000
set_option linter.unusedVariables false
set_option linter.unusedSimpArgs false
set_option linter.unusedSectionVars false
open Go Go.Z Go.Z.Val Go.Z.Aig Go.Z.Bit

set_option maxHeartbeats 8000000 in
theorem bmixes_ok {ρ : Nat → Obj → Prop} (op a b mask : Int) (same : Bool) (ha : 0 ≤ a ∧ a ≤ 65535) (hb : 0 ≤ b ∧ b ≤ 65535) (hm : 0 ≤ mask ∧ mask ≤ 65535) :
    Con Try.prog ρ 9 #[.int .i64 op, .int .u16 a, .int .u16 b, .int .u16 mask, .bool same] [] (fun u H => u = .bool true) := by
  have hS : (S0 16).length = 17 := S0_len 16
  have hw0 := S0_wf 16 (by omega)
  have hil := inL_len 16
  obtain ⟨hin1, hin2⟩ := den_ins (m := 16) (by omega)
  have hbl : (bitsR 16 b).length = 16 := bitsR_len 16 b
  have hin := hin2 (bitsR 16 b) hbl
  refine con_intro Try.func9 Try.call9 rfl Try.ntmps9 rfl (L := [(0, _), (1, _), (2, _), (3, _), (4, _)]) rfl fun w hh => ?_
  refine g_seq ?_
  refine g_region ?_
  refine g_pure (p_assign rfl) rfl ?_
  refine g_nil ?_
  refine g_qt ?_
  refine g_seq ?_
  refine g_region ?_
  refine g_call (Hin := []) (Hr := ?hr1) (R := ?rr1) rfl rfl rfl ?hin1 ?hc1 ?hk1
  case hin1 => repeat' (first | exact Cover.nil | exact Take.here | apply Cover.cons | apply Take.there)
  case hc1 => intro ρ' hρ hR; exact inputs38_ok 16 (by omega)
  rintro _ _ ⟨p, la, lc, rfl, rfl⟩
  refine g_pure (p_move rfl) rfl ?_
  refine g_pure (p_extract rfl rfl) rfl ?_
  refine g_pure (p_extract rfl rfl) rfl ?_
  refine g_pure (p_assign rfl) rfl ?_
  refine g_pure (p_assign rfl) rfl ?_
  refine g_nil ?_
  refine g_qt ?_
  refine g_seq ?_
  refine g_seq ?_
  refine g_region ?_
  refine g_pure (p_move rfl) rfl ?_
  refine g_pure (p_eqnil (by rfl) rfl rfl) rfl ?_
  refine g_nil ?_
  refine g_qt ?_
  refine g_iff rfl ?_
  refine g_skip ?_
  refine g_qt ?_
  refine g_seq ?_
  refine g_region ?_
  refine g_pure (p_move rfl) rfl ?_
  first | refine g_pure (p_convi (by rfl) rfl (by omega)) rfl ?_ | refine g_pure (p_conv (by rfl) rfl) rfl ?_
  refine g_call (Hin := []) (Hr := ?hr2) (R := ?rr2) rfl rfl rfl ?hin2 ?hc2 ?hk2
  case hin2 => repeat' (first | exact Cover.nil | exact Take.here | apply Cover.cons | apply Take.there)
  case hc2 => intro ρ' hρ hR; exact dbits_ok b (by unfold I64; omega) 16 (by omega)
  rintro _ _ ⟨ia, ic, rfl, rfl⟩
  refine g_pure (p_assign rfl) rfl ?_
  refine g_nil ?_
  refine g_qt ?_
  refine g_seq ?_
  refine g_region ?_
  refine g_pure (p_assign rfl) rfl ?_
  refine g_nil ?_
  refine g_qt ?_
  refine g_seq ?_
  refine g_region ?_
  refine g_pure (p_assign rfl) rfl ?_
  refine g_nil ?_
  refine g_qt ?_
  refine g_seq ?_
  refine g_seq ?_
  refine g_region ?_
  refine g_pure (p_assign rfl) rfl ?_
  refine g_nil ?_
  refine g_qt ?_
  refine g_block ?_
  refine g_ownnil (e := 27) (size := 1) ?_
  refine g_ownnil (e := 4) (size := 1) ?_
  refine g_loop (fun q : (Nat × List Int × List Bool) × (Option Addr × Nat) × (Option Addr × Nat) => [(0, .int .i64 op), (1, .int .u16 a), (2, .int .u16 b), (3, .int .u16 mask), (4, .bool same), (11, .pointer (some ⟨p, 0, none⟩)), (12, .slice la 16 lc), (13, .slice ia 16 ic), (14, .slice q.2.1.1 q.1.1 q.2.1.2), (15, .slice q.2.2.1 q.1.1 q.2.2.2), (16, .int .i64 q.1.1)])
    (fun q => [OwnSl 27 1 q.2.1.1 q.1.1 q.2.1.2 (q.1.2.1.map encI), OwnSl 4 1 q.2.2.1 q.1.1 q.2.2.2 (q.1.2.2.map encB), OwnSl 27 1 la 16 lc ((inL 16).map encI), OwnSl 4 1 ia 16 ic ((bitsR 16 b).map encB), Gr p (S0 16)])
    (fun q => q.1.1 ≤ 16 ∧ q.1.2.1.length = q.1.1 ∧ q.1.2.2.length = q.1.1 ∧ (∀ l ∈ q.1.2.1, has (S0 16) l) ∧ q.1.2.1.map (litv (vals (S0 16) (bitsR 16 b))) = q.1.2.2) (fun q => 16 - q.1.1) ((0, [], []), (none, 0), (none, 0)) ⟨Nat.zero_le _, rfl, rfl, fun l h => absurd h List.not_mem_nil, rfl⟩ (by (repeat (first | exact trivial | refine ⟨by rfl, ?_⟩)); done) (by repeat' (first | exact Cover.nil | exact Take.here | apply Cover.cons | apply Take.there)) ?_
  rintro ⟨⟨k, xs, fs⟩, ⟨xa, xc⟩, fa, fc⟩ ⟨hk, hxl, hfl, hxh, hxd⟩
  dsimp only at hk hxl hfl hxh hxd ⊢
  refine g_seq ?_
  refine g_seq ?_
  refine g_region ?_
  refine g_pure (p_move rfl) rfl ?_
  refine g_pure (p_lss rfl rfl) rfl ?_
  refine g_nil ?_
  refine g_qt ?_
  refine g_ifd rfl (fun q => ?_) (fun q => ?_)
  · have hlit : Den (S0 16) (lit1 (decide (a / ((2 ^ k : Nat) : Int) % 2 = 1))) (fun _ => decide (a / ((2 ^ k : Nat) : Int) % 2 = 1)) := by
      cases decide (a / ((2 ^ k : Nat) : Int) % 2 = 1)
      · exact Den.zero hw0
      · exact Den.one hw0
    refine g_skip ?_
    refine g_qt ?_
    refine g_seq ?_
    refine g_block ?_
    refine g_seq ?_
    refine g_region ?_
    refine g_pure (p_move rfl) rfl ?_
    first | refine g_pure (p_convi (by rfl) rfl (by omega)) rfl ?_ | refine g_pure (p_conv (by rfl) rfl) rfl ?_
    refine g_pure (p_move rfl) rfl ?_
    refine g_pure (p_convu (by rfl) rfl (by omega)) rfl ?_
    refine g_pure (p_shr rfl rfl (by omega)) rfl ?_
    refine g_pure (p_and rfl rfl) rfl ?_
    refine g_pure (p_assign rfl) rfl ?_
    refine g_nil ?_
    refine g_qt ?_
    refine g_seq ?_
    rw [shr_i64 a (by omega), and1_i64 _ (div_i64 (by unfold I64; omega) k), lit1_mod]
    have hlb : ∀ x : Bool, decide (lit1 x = 1) = x := fun x => by cases x <;> rfl
    generalize decide (a / ((2 ^ k : Nat) : Int) % 2 = 1) = bit at hlit ⊢
    refine g_region ?_
    refine g_pure (p_move rfl) rfl ?_
    refine g_pure (p_eql rfl rfl) rfl ?_
    refine g_pure (p_assign rfl) rfl ?_
    refine g_nil ?_
    refine g_qt ?_
    refine g_seq ?_
    refine g_seq ?_
    refine g_region ?_
    refine g_pure (p_move rfl) rfl ?_
    refine g_pure (p_move rfl) rfl ?_
    refine g_pure (p_convu (by rfl) rfl (by omega)) rfl ?_
    refine g_pure (p_shr rfl rfl (by omega)) rfl ?_
    refine g_pure (p_and rfl rfl) rfl ?_
    refine g_pure (p_eql rfl rfl) rfl ?_
    refine g_nil ?_
    refine g_qt ?_
    rw [hlb]
    have next : ∀ (l : Int) (x : Bool), has (S0 16) l → litv (vals (S0 16) (bitsR 16 b)) l = x → (k + 1 ≤ 16 ∧ (xs ++ [l]).length = k + 1 ∧ (fs ++ [x]).length = k + 1 ∧ (∀ y ∈ xs ++ [l], has (S0 16) y) ∧ (xs ++ [l]).map (litv (vals (S0 16) (bitsR 16 b))) = fs ++ [x]) := fun l x h1 h2 => by
      refine ⟨by omega, by simp [hxl], by simp [hfl], fun y hy => ?_, by rw [List.map_append, hxd]; simp [h2]⟩
      rcases List.mem_append.1 hy with h | h
      · exact hxh y h
      · rw [List.mem_singleton.1 h]; exact h1
    have ex : ∀ l : Int, xs.map encI ++ [Value.int .i64 l] = (xs ++ [l]).map encI := fun l => by rw [List.map_append]; rfl
    have ef : ∀ x : Bool, fs.map encB ++ [Value.bool x] = (fs ++ [x]).map encB := fun x => by rw [List.map_append]; rfl
    refine g_ifd rfl (fun q2 => ?_) (fun q2 => ?_)
    · have hj : (((k : Int) + 3) % 16).toNat < 16 := by omega
      refine g_own (e := 27) (a1 := la) (k := 16) (cap := lc) (xs := (inL 16).map encI) (by repeat' (first | exact Take.here | apply Take.there)) (fun _ h2 _ _ => absurd h2 (by omega)) ?_
      rintro gx curx rfl x1 x2 x3 x4 x5
      refine g_own (e := 4) (a1 := ia) (k := 16) (cap := ic) (xs := (bitsR 16 b).map encB) (by repeat' (first | exact Take.here | apply Take.there)) (fun _ h2 _ _ => absurd h2 (by omega)) ?_
      rintro gy cury rfl y1 y2 y3 y4 y5
      have hx : curx[0 + (((k : Int) + 3) % 16).toNat * 1]? = some (.int .i64 (2 * (((((k : Int) + 3) % 16).toNat : Int) + 1))) := own_at (k := (((k : Int) + 3) % 16).toNat) x4 rfl (by unfold inL; rw [List.getElem?_map, List.getElem?_map, List.getElem?_range hj]; rfl)
      have hy : cury[0 + (((k : Int) + 3) % 16).toNat * 1]? = some (.bool ((bitsR 16 b)[(((k : Int) + 3) % 16).toNat]'(by omega))) := own_at (k := (((k : Int) + 3) % 16).toNat) y4 rfl (by rw [List.getElem?_map, List.getElem?_eq_getElem (by omega)]; rfl)
      have hd := den_in (m := 16) (k := (((k : Int) + 3) % 16).toNat) (by omega) hj
      have hd2 := hd.2 (bitsR 16 b)
      dsimp only at hd2
      rw [List.getD_eq_getElem?_getD, List.getElem?_eq_getElem (by omega), Option.getD_some] at hd2
      refine g_seq ?_
      refine g_region ?_
      refine g_pure (p_move rfl) rfl ?_
      refine g_pure (p_move rfl) rfl ?_
      first | refine g_pure (p_addi rfl rfl (by omega)) rfl ?_ | refine g_pure (p_add rfl rfl) rfl ?_
      first | refine g_pure (p_remn rfl rfl (by omega) (by omega)) rfl ?_ | refine g_pure (p_rem rfl rfl (by omega)) rfl ?_
      refine g_pure (p_indexAddr rfl rfl (by omega) (fun _ => rfl)) rfl ?_
      refine g_pure (p_load (by rfl) rfl (Has.own (by repeat' (first | exact Take.here | apply Take.there))) hx) rfl ?_
      refine g_pure (p_assign rfl) rfl ?_
      refine g_nil ?_
      refine g_qt ?_
      refine g_region ?_
      refine g_pure (p_move rfl) rfl ?_
      refine g_pure (p_move rfl) rfl ?_
      first | refine g_pure (p_addi rfl rfl (by omega)) rfl ?_ | refine g_pure (p_add rfl rfl) rfl ?_
      first | refine g_pure (p_remn rfl rfl (by omega) (by omega)) rfl ?_ | refine g_pure (p_rem rfl rfl (by omega)) rfl ?_
      refine g_pure (p_indexAddr rfl rfl (by omega) (fun _ => rfl)) rfl ?_
      refine g_pure (p_load (by rfl) rfl (Has.own (by repeat' (first | exact Take.here | apply Take.there))) hy) rfl ?_
      refine g_pure (p_assign rfl) rfl ?_
      refine g_nil ?_
      refine g_qt ?_
      refine g_seq ?_
      refine g_region ?_
      refine g_pure (p_move rfl) rfl ?_
      refine g_pure (p_move rfl) rfl ?_
      refine g_eff (e_bs (xs := [.tmp 69]) rfl rfl rfl (by rfl) (by rfl) rfl (by rfl)) rfl (fun _ _ => ?_)
      rintro ⟨b70, rfl, rfl⟩
      refine g_eff (e_appendO (xs := xs.map encI) (a1 := xa) (k := k) (cap := xc) (by rfl) (by rfl) rfl rfl (by first | (apply Has.own; (repeat' (first | exact Take.here | apply Take.there)); done)) (by rfl) (by rfl) (by repeat' (first | exact Take.here | apply Take.there)) (by omega) (by dsimp only; omega) (by omega)) rfl (fun _ _ => ?_)
      rintro ⟨a71, c71, rfl, rfl⟩
      refine g_pure (p_assign rfl) rfl ?_
      refine g_nil ?_
      refine g_qt ?_
      refine g_region ?_
      refine g_pure (p_move rfl) rfl ?_
      refine g_pure (p_move rfl) rfl ?_
      refine g_eff (e_bs (xs := [.tmp 73]) rfl rfl rfl (by rfl) (by rfl) rfl (by rfl)) rfl (fun _ _ => ?_)
      rintro ⟨b74, rfl, rfl⟩
      refine g_eff (e_appendO (xs := fs.map encB) (a1 := fa) (k := k) (cap := fc) (by rfl) (by rfl) rfl rfl (by first | (apply Has.own; (repeat' (first | exact Take.here | apply Take.there)); done)) (by rfl) (by rfl) (by repeat' (first | exact Take.here | apply Take.there)) (by omega) (by dsimp only; omega) (by omega)) rfl (fun _ _ => ?_)
      rintro ⟨a75, c75, rfl, rfl⟩
      refine g_pure (p_assign rfl) rfl ?_
      refine g_nil ?_
      refine g_qb ?_
      refine g_qt ?_
      refine g_region ?_
      refine g_pure (p_move rfl) rfl ?_
      first | refine g_pure (p_addi rfl rfl (by omega)) rfl ?_ | refine g_pure (p_add rfl rfl) rfl ?_
      refine g_pure (p_assign rfl) rfl ?_
      refine g_nil ?_
      refine g_qn ?_
      rw [ex, ef]
      refine g_fold (e := 27) (g := gx) (k := 16) (cap := lc) (size := 1) (xs := (inL 16).map encI) (by repeat' (first | exact Take.here | apply Take.there)) x1 x2 x3 x4 ?_
      refine g_fold (e := 4) (g := gy) (k := 16) (cap := ic) (size := 1) (xs := (bitsR 16 b).map encB) (by repeat' (first | exact Take.here | apply Take.there)) y1 y2 y3 y4 ?_
      exact g_next ((k + 1, xs ++ [_], fs ++ [_]), (a71, c71), (a75, c75)) (by (repeat (first | exact trivial | refine ⟨by rfl, ?_⟩)); done) (by repeat' (first | exact Cover.nil | exact Take.here | apply Cover.cons | apply Take.there)) (next _ _ hd.1 hd2) (by dsimp only; omega)
    · refine g_skip ?_
      refine g_qt ?_
      refine g_seq ?_
      refine g_region ?_
      refine g_pure (p_move rfl) rfl ?_
      refine g_pure (p_move rfl) rfl ?_
      refine g_eff (e_bs (xs := [.tmp 69]) rfl rfl rfl (by rfl) (by rfl) rfl (by rfl)) rfl (fun _ _ => ?_)
      rintro ⟨b70, rfl, rfl⟩
      refine g_eff (e_appendO (xs := xs.map encI) (a1 := xa) (k := k) (cap := xc) (by rfl) (by rfl) rfl rfl (by first | (apply Has.own; (repeat' (first | exact Take.here | apply Take.there)); done)) (by rfl) (by rfl) (by repeat' (first | exact Take.here | apply Take.there)) (by omega) (by dsimp only; omega) (by omega)) rfl (fun _ _ => ?_)
      rintro ⟨a71, c71, rfl, rfl⟩
      refine g_pure (p_assign rfl) rfl ?_
      refine g_nil ?_
      refine g_qt ?_
      refine g_region ?_
      refine g_pure (p_move rfl) rfl ?_
      refine g_pure (p_move rfl) rfl ?_
      refine g_eff (e_bs (xs := [.tmp 73]) rfl rfl rfl (by rfl) (by rfl) rfl (by rfl)) rfl (fun _ _ => ?_)
      rintro ⟨b74, rfl, rfl⟩
      refine g_eff (e_appendO (xs := fs.map encB) (a1 := fa) (k := k) (cap := fc) (by rfl) (by rfl) rfl rfl (by first | (apply Has.own; (repeat' (first | exact Take.here | apply Take.there)); done)) (by rfl) (by rfl) (by repeat' (first | exact Take.here | apply Take.there)) (by omega) (by dsimp only; omega) (by omega)) rfl (fun _ _ => ?_)
      rintro ⟨a75, c75, rfl, rfl⟩
      refine g_pure (p_assign rfl) rfl ?_
      refine g_nil ?_
      refine g_qb ?_
      refine g_qt ?_
      refine g_region ?_
      refine g_pure (p_move rfl) rfl ?_
      first | refine g_pure (p_addi rfl rfl (by omega)) rfl ?_ | refine g_pure (p_add rfl rfl) rfl ?_
      refine g_pure (p_assign rfl) rfl ?_
      refine g_nil ?_
      refine g_qn ?_
      rw [ex, ef]
      exact g_next ((k + 1, xs ++ [_], fs ++ [_]), (a71, c71), (a75, c75)) (by (repeat (first | exact trivial | refine ⟨by rfl, ?_⟩)); done) (by repeat' (first | exact Cover.nil | exact Take.here | apply Cover.cons | apply Take.there)) (next _ _ hlit.1 (hlit.2 _)) (by dsimp only; omega)
  · have hke : k = 16 := by omega
    subst hke
    refine g_exit ?_
    refine g_qt_exit ?_
    refine g_qn_exit ?_
    refine g_qb_exit ?_
    refine g_qt ?_
    refine g_seq ?_
    refine g_region ?_
    refine g_pure (p_move rfl) rfl ?_
    refine g_pure (p_move rfl) rfl ?_
    refine g_pure (p_assign rfl) rfl ?_
    refine g_pure (p_assign rfl) rfl ?_
    refine g_nil ?_
    refine g_qt ?_
    refine g_seq ?_
    refine g_seq ?_
    refine g_region ?_
    refine g_pure (p_move rfl) rfl ?_
    refine g_nil ?_
    refine g_qt ?_
    cases same with
    | true =>
      refine g_ift rfl ?_
      refine g_region ?_
      refine g_pure (p_move rfl) rfl ?_
      refine g_pure (p_move rfl) rfl ?_
      refine g_pure (p_assign rfl) rfl ?_
      refine g_pure (p_assign rfl) rfl ?_
      refine g_nil ?_
      refine g_qt ?_
      refine g_seq ?_
      refine g_region ?_
      refine g_pure (p_move rfl) rfl ?_
      refine g_eff (e_bs (xs := [.const (.int .i64 16), .const (.int .i64 16)]) rfl rfl rfl (by rfl) (by rfl) rfl (by rfl)) rfl (fun _ _ => ?_)
      rintro ⟨b83, rfl, rfl⟩
      have hargs : [fs, fs].map List.length = [16, 16] := by simp [hfl, hfl]
      have happ : applyE op [xs, xs] = (formF op [16, 16]).2 := by rw [apply_form]; simp [hxl, hxl]
      have hb2 : ∀ l ∈ [xs, xs].flatten, has (S0 16) l := fun l hl => by
        obtain ⟨r, h1, h2⟩ := List.mem_flatten.1 hl
        rcases List.mem_cons.1 h1 with rfl | h1
        · exact hxh l h2
        · rw [List.mem_singleton.1 h1] at h2; exact hxh l h2
      have hl2 : ∀ l ∈ [xs, xs], l.length ≤ 1000000000 := fun l hl => by
        rcases List.mem_cons.1 hl with rfl | hl
        · omega
        · rw [List.mem_singleton.1 hl]; omega
      refine g_call (Hin := []) (Hr := ?hr3) (R := ?rr3) rfl rfl rfl ?hin3 ?hc3 ?hk3
      case hin3 => repeat' (first | exact Cover.nil | exact Take.here | apply Cover.cons | apply Take.there)
      case hc3 => intro ρ' hρ hR; exact (by have := form_ok (ρ := ρ') (wc := 2) (ws := [16, 16]) op (RSl.of_blk (k := 2) (size := 1) (cs := [Value.int .i64 16, Value.int .i64 16]) (Take.ro (A := Blk b83 (.cells [.int .i64 16, .int .i64 16].toArray 3 (0, 0))) (by repeat' (first | exact Take.here | apply Take.there)) hR).blk (Nat.le_refl _)) (by decide) (fun k => by rcases k with _ | _ | k <;> simp); exact this)
      rintro _ _ ⟨rfl, rfl⟩
      refine g_pure (p_move rfl) rfl ?_
      refine g_pure (p_extract rfl rfl) rfl ?_
      refine g_pure (p_extract rfl rfl) rfl ?_
      refine g_pure (p_assign rfl) rfl ?_
      refine g_pure (p_assign rfl) rfl ?_
      refine g_nil ?_
      refine g_qt ?_
      refine g_seq ?_
      refine g_region ?_
      refine g_pure (p_move rfl) rfl ?_
      refine g_pure (p_move rfl) rfl ?_
      refine g_pure (p_move rfl) rfl ?_
      refine g_pure (p_move rfl) rfl ?_
      refine g_eff (e_bs (xs := [.tmp 90, .tmp 91]) rfl rfl rfl (by rfl) (by rfl) rfl (by rfl)) rfl (fun _ _ => ?_)
      rintro ⟨b92, rfl, rfl⟩
      by_cases h0 : (formF op [16, 16]).2 = 0
      · have hform := form_ok0 h0
        have hw1 := hform.2.2.1
        have ho16 : outF op ≤ 16 := by unfold outF; split <;> omega
        have hcirc := circ_law (op := op) (args := [fs, fs]) (by rw [hargs]; exact h0)
        have hfa := form_apply (op := op) (args := [fs, fs]) (by rw [hargs]; exact h0)
        have hdF : (dF op [fs, fs]).1 = bitsR (outF op) (opF op (sg fs) (sg fs)) := by unfold dF; rw [hargs, if_pos h0]; rfl
        rw [hdF] at hcirc
        have hop := opF_in op (sg fs) (sg fs)
        rw [h0, hw1]
        refine g_call (Hin := [Gr p (S0 16)]) (Hr := ?hr4) (R := ?rr4) rfl rfl rfl ?hin4 ?hc4 ?hk4
        case hin4 => repeat' (first | exact Cover.nil | exact Take.here | apply Cover.cons | apply Take.there)
        case hc4 => intro ρ' hρ hR; exact bapply_yes p op hw0 (by omega) (two_rows hxl hxl (Take.ro (A := Blk b92 (.cells [.slice xa 16 xc, .slice xa 16 xc].toArray 26 (0, 0))) (by repeat' (first | exact Take.here | apply Take.there)) hR).blk (RSl.of_own (Take.ro (A := OwnSl 27 1 xa 16 xc (xs.map encI)) (by repeat' (first | exact Take.here | apply Take.there)) hR)) (RSl.of_own (Take.ro (A := OwnSl 27 1 xa 16 xc (xs.map encI)) (by repeat' (first | exact Take.here | apply Take.there)) hR))) (by simp) hl2 hb2 (by rw [happ]; exact h0)
        rintro _ _ ⟨a2, c2, out, T, rfl, rfl, u, d⟩
        have hval : operateF op (([xs, xs].headD []).map (litv (vals (S0 16) (bitsR 16 b)))) (([xs, xs].getLastD []).map (litv (vals (S0 16) (bitsR 16 b)))) = bitsR (outF op) (opF op (sg fs) (sg fs)) := by
          show operateF op (xs.map (litv (vals (S0 16) (bitsR 16 b)))) (xs.map (litv (vals (S0 16) (bitsR 16 b)))) = _
          rw [hxd]; try rw [hxd]
          exact hcirc
        have hout : out.length = outF op := by have := d.len (bitsR 16 b); rw [← this, hval, bitsR_len]
        have hev : eval1 T (bitsR 16 b) out = (bitsR (outF op) (opF op (sg fs) (sg fs)), 0) := by rw [eval_up u hbl d, hval]
        rw [hout]
        refine g_pure (p_move rfl) rfl ?_
        refine g_pure (p_extract rfl rfl) rfl ?_
        refine g_pure (p_extract rfl rfl) rfl ?_
        refine g_pure (p_assign rfl) rfl ?_
        refine g_pure (p_assign rfl) rfl ?_
        refine g_nil ?_
        refine g_qt ?_
        refine g_seq ?_
        refine g_seq ?_
        refine g_region ?_
        refine g_pure (p_move rfl) rfl ?_
        refine g_pure (p_move rfl) rfl ?_
        refine g_pure (p_neqF rfl rfl rfl) rfl ?_
        refine g_pure (p_move rfl) rfl ?_
        refine g_yes rfl rfl ?_
        refine g_pure (p_move rfl) rfl ?_
        refine g_yes rfl rfl ?_
        refine g_pure (p_len (by rfl) rfl) rfl ?_
        refine g_yes rfl rfl ?_
        refine g_pure (p_move rfl) rfl ?_
        refine g_yes rfl rfl ?_
        refine g_pure (p_neqF rfl rfl rfl) rfl ?_
        first | refine g_pure (p_pickt rfl rfl) rfl ?_ | refine g_pure (p_pickf rfl rfl) rfl ?_
        refine g_nil ?_
        refine g_qt ?_
        refine g_iff rfl ?_
        refine g_skip ?_
        refine g_qt ?_
        refine g_seq ?_
        refine g_seq ?_
        refine g_region ?_
        refine g_pure (p_move rfl) rfl ?_
        refine g_pure (p_neqF rfl rfl rfl) rfl ?_
        refine g_nil ?_
        refine g_qt ?_
        refine g_iff rfl ?_
        refine g_skip ?_
        refine g_qt ?_
        refine g_seq ?_
        refine g_region ?_
        refine g_pure (p_move rfl) rfl ?_
        refine g_pure (p_move rfl) rfl ?_
        refine g_call (Hin := []) (Hr := ?hr5) (R := ?rr5) rfl rfl rfl ?hin5 ?hc5 ?hk5
        case hin5 => repeat' (first | exact Cover.nil | exact Take.here | apply Cover.cons | apply Take.there)
        case hc5 => intro ρ' hρ hR; exact (by have := number_ok (ρ := ρ') (bc := fc) (bs := fs) (by rw [hfl]; exact RSl.of_own (Take.ro (A := OwnSl 4 1 fa 16 fc (fs.map encB)) (by repeat' (first | exact Take.here | apply Take.there)) hR)) (by omega); rw [hfl] at this; exact this)
        rintro _ _ ⟨rfl, rfl⟩
        refine g_pure (p_move rfl) rfl ?_
        refine g_call (Hin := []) (Hr := ?hr6) (R := ?rr6) rfl rfl rfl ?hin6 ?hc6 ?hk6
        case hin6 => repeat' (first | exact Cover.nil | exact Take.here | apply Cover.cons | apply Take.there)
        case hc6 => intro ρ' hρ hR; exact (by have := number_ok (ρ := ρ') (bc := fc) (bs := fs) (by rw [hfl]; exact RSl.of_own (Take.ro (A := OwnSl 4 1 fa 16 fc (fs.map encB)) (by repeat' (first | exact Take.here | apply Take.there)) hR)) (by omega); rw [hfl] at this; exact this)
        rintro _ _ ⟨rfl, rfl⟩
        refine g_eff (e_bs (xs := [.tmp 111, .tmp 113]) rfl rfl rfl (by rfl) (by rfl) rfl (by rfl)) rfl (fun _ _ => ?_)
        rintro ⟨b114, rfl, rfl⟩
        refine g_call (Hin := []) (Hr := ?hr7) (R := ?rr7) rfl rfl rfl ?hin7 ?hc7 ?hk7
        case hin7 => repeat' (first | exact Cover.nil | exact Take.here | apply Cover.cons | apply Take.there)
        case hc7 => intro ρ' hρ hR; exact (by have := Go.Proofs.Ytkebblmmgcgjkaa.apply_ok (ρ := ρ') (ac := 2) (args := [sg fs, sg fs]) op (RSl.of_blk (k := 2) (size := 1) (cs := [Value.int .i64 (sg fs), Value.int .i64 (sg fs)]) (Take.ro (A := Blk b114 (.cells [.int .i64 (sg fs), .int .i64 (sg fs)].toArray 3 (0, 0))) (by repeat' (first | exact Take.here | apply Take.there)) hR).blk (Nat.le_refl _)) (by simp); rw [show applyF op [sg fs, sg fs] = (opF op (sg fs) (sg fs), 0) from hfa] at this; exact this)
        rintro _ _ ⟨rfl, rfl⟩
        refine g_pure (p_move rfl) rfl ?_
        refine g_pure (p_extract rfl rfl) rfl ?_
        refine g_pure (p_extract rfl rfl) rfl ?_
        refine g_pure (p_assign rfl) rfl ?_
        refine g_pure (p_assign rfl) rfl ?_
        refine g_nil ?_
        refine g_qt ?_
        refine g_seq ?_
        refine g_region ?_
        refine g_pure (p_move rfl) rfl ?_
        refine g_pure (p_move rfl) rfl ?_
        refine g_pure (p_move rfl) rfl ?_
        refine g_call (Hin := []) (Hr := ?hr8) (R := ?rr8) rfl rfl rfl ?hin8 ?hc8 ?hk8
        case hin8 => repeat' (first | exact Cover.nil | exact Take.here | apply Cover.cons | apply Take.there)
        case hc8 => intro ρ' hρ hR; exact (by have := eval_at (ρ := ρ') (p := p) (ia := ia) (ic := ic) (al := a2) (cl := c2) hev (by rw [hbl]; exact RSl.of_own (Take.ro (A := OwnSl 4 1 ia 16 ic ((bitsR 16 b).map encB)) (by repeat' (first | exact Take.here | apply Take.there)) hR)) (by rw [hout]; exact RSl.of_own (Take.ro (A := OwnSl 27 1 a2 (outF op) c2 (out.map encI)) (by repeat' (first | exact Take.here | apply Take.there)) hR)) (by omega) (by omega) (i64_of u.wf d) (Take.ro (A := Gr p T) (by repeat' (first | exact Take.here | apply Take.there)) hR); rw [hbl, hout, bitsR_len] at this; exact this)
        rintro _ _ ⟨va, vc, rfl, rfl⟩
        refine g_pure (p_move rfl) rfl ?_
        refine g_pure (p_extract rfl rfl) rfl ?_
        refine g_pure (p_extract rfl rfl) rfl ?_
        refine g_pure (p_assign rfl) rfl ?_
        refine g_pure (p_assign rfl) rfl ?_
        refine g_nil ?_
        refine g_qt ?_
        refine g_seq ?_
        refine g_region ?_
        refine g_pure (p_move rfl) rfl ?_
        refine g_pure (p_eqlT rfl rfl rfl) rfl ?_
        refine g_pure (p_move rfl) rfl ?_
        refine g_yes rfl rfl ?_
        refine g_pure (p_move rfl) rfl ?_
        refine g_yes rfl rfl ?_
        refine g_pure (p_eqlT rfl rfl rfl) rfl ?_
        first | refine g_pure (p_pickt rfl rfl) rfl ?_ | refine g_pure (p_pickf rfl rfl) rfl ?_
        refine g_pure (p_move rfl) rfl ?_
        refine g_yes rfl rfl ?_
        refine g_pure (p_move rfl) rfl ?_
        refine g_yes rfl rfl ?_
        refine g_pure (p_move rfl) rfl ?_
        refine g_yes rfl rfl ?_
        refine g_pure (p_move rfl) rfl ?_
        refine g_yes rfl rfl ?_
        refine g_call (Hin := []) (Hr := ?hr9) (R := ?rr9) rfl rfl rfl ?hin9 ?hc9 ?hk9
        case hin9 => repeat' (first | exact Cover.nil | exact Take.here | apply Cover.cons | apply Take.there)
        case hc9 => intro ρ' hρ hR; exact dbits_ok (opF op (sg fs) (sg fs)) (by unfold I64; omega) (outF op) (by omega)
        rintro _ _ ⟨wa, wc, rfl, rfl⟩
        refine g_yes rfl rfl ?_
        refine g_call (Hin := []) (Hr := ?hr10) (R := ?rr10) rfl rfl rfl ?hin10 ?hc10 ?hk10
        case hin10 => repeat' (first | exact Cover.nil | exact Take.here | apply Cover.cons | apply Take.there)
        case hc10 => intro ρ' hρ hR; exact bools_n (bitsR_len _ _) rfl (RSl.of_own (Take.ro (A := OwnSl 4 1 va (outF op) vc ((bitsR (outF op) (opF op (sg fs) (sg fs))).map encB)) (by repeat' (first | exact Take.here | apply Take.there)) hR)) (RSl.of_own (Take.ro (A := OwnSl 4 1 wa (outF op) wc ((bitsR (outF op) (opF op (sg fs) (sg fs))).map encB)) (by repeat' (first | exact Take.here | apply Take.there)) hR)) (by omega)
        rintro _ _ ⟨rfl, rfl⟩
        first | refine g_pure (p_pickt rfl rfl) rfl ?_ | refine g_pure (p_pickf rfl rfl) rfl ?_
        refine g_pure (p_move rfl) rfl ?_
        refine g_yes rfl rfl ?_
        refine g_call (Hin := []) (Hr := ?hr11) (R := ?rr11) rfl rfl rfl ?hin11 ?hc11 ?hk11
        case hin11 => repeat' (first | exact Cover.nil | exact Take.here | apply Cover.cons | apply Take.there)
        case hc11 => intro ρ' hρ hR; exact blives_ok
        rintro _ _ ⟨rfl, rfl⟩
        first | refine g_pure (p_pickt rfl rfl) rfl ?_ | refine g_pure (p_pickf rfl rfl) rfl ?_
        refine g_pure (p_assign rfl) rfl ?_
        refine g_nil ?_
        refine g_qt ?_
        refine g_ret ?_
        exact g_post (Ho := []) (rs := [.tmp 10]) rfl (.tmp rfl .nil) rfl .nil
      · have hw1 : (formF op [16, 16]).1 = 0 := by
          revert h0
          unfold formF
          (repeat' split) <;> simp
        rw [hw1]
        refine g_call (Hin := [Gr p (S0 16)]) (Hr := ?hr12) (R := ?rr12) rfl rfl rfl ?hin12 ?hc12 ?hk12
        case hin12 => repeat' (first | exact Cover.nil | exact Take.here | apply Cover.cons | apply Take.there)
        case hc12 => intro ρ' hρ hR; exact (by have := bapply_no (ρ := ρ') (al := some ⟨b92, 0, none⟩) (cl := 2) p op hw0 (by omega) (two_rows hxl hxl (Take.ro (A := Blk b92 (.cells [.slice xa 16 xc, .slice xa 16 xc].toArray 26 (0, 0))) (by repeat' (first | exact Take.here | apply Take.there)) hR).blk (RSl.of_own (Take.ro (A := OwnSl 27 1 xa 16 xc (xs.map encI)) (by repeat' (first | exact Take.here | apply Take.there)) hR)) (RSl.of_own (Take.ro (A := OwnSl 27 1 xa 16 xc (xs.map encI)) (by repeat' (first | exact Take.here | apply Take.there)) hR))) (by simp) hl2 hb2 (by rw [happ]; exact h0); rw [happ] at this; exact this)
        rintro _ _ ⟨rfl, rfl⟩
        refine g_pure (p_move rfl) rfl ?_
        refine g_pure (p_extract rfl rfl) rfl ?_
        refine g_pure (p_extract rfl rfl) rfl ?_
        refine g_pure (p_assign rfl) rfl ?_
        refine g_pure (p_assign rfl) rfl ?_
        refine g_nil ?_
        refine g_qt ?_
        refine g_seq ?_
        refine g_seq ?_
        refine g_region ?_
        refine g_pure (p_move rfl) rfl ?_
        refine g_pure (p_move rfl) rfl ?_
        refine g_pure (p_neqF rfl rfl rfl) rfl ?_
        refine g_pure (p_move rfl) rfl ?_
        refine g_yes rfl rfl ?_
        refine g_pure (p_move rfl) rfl ?_
        refine g_yes rfl rfl ?_
        refine g_pure (p_len (by rfl) rfl) rfl ?_
        refine g_yes rfl rfl ?_
        refine g_pure (p_move rfl) rfl ?_
        refine g_yes rfl rfl ?_
        refine g_pure (p_neqF rfl rfl rfl) rfl ?_
        first | refine g_pure (p_pickt rfl rfl) rfl ?_ | refine g_pure (p_pickf rfl rfl) rfl ?_
        refine g_nil ?_
        refine g_qt ?_
        refine g_iff rfl ?_
        refine g_skip ?_
        refine g_qt ?_
        refine g_seq ?_
        refine g_seq ?_
        refine g_region ?_
        refine g_pure (p_move rfl) rfl ?_
        refine g_pure (p_neqT rfl rfl h0) rfl ?_
        refine g_nil ?_
        refine g_qt ?_
        refine g_ift rfl ?_
        refine g_seq ?_
        refine g_region ?_
        refine g_call (Hin := []) (Hr := ?hr13) (R := ?rr13) rfl rfl rfl ?hin13 ?hc13 ?hk13
        case hin13 => repeat' (first | exact Cover.nil | exact Take.here | apply Cover.cons | apply Take.there)
        case hc13 => intro ρ' hρ hR; exact blives_ok
        rintro _ _ ⟨rfl, rfl⟩
        refine g_pure (p_assign rfl) rfl ?_
        refine g_nil ?_
        refine g_qt ?_
        refine g_ret ?_
        refine g_qt_ret ?_
        exact g_post (Ho := []) (rs := [.tmp 10]) rfl (.tmp rfl .nil) rfl .nil
    | false =>
      refine g_iff rfl ?_
      refine g_skip ?_
      refine g_qt ?_
      refine g_seq ?_
      refine g_region ?_
      refine g_pure (p_move rfl) rfl ?_
      refine g_eff (e_bs (xs := [.const (.int .i64 16), .const (.int .i64 16)]) rfl rfl rfl (by rfl) (by rfl) rfl (by rfl)) rfl (fun _ _ => ?_)
      rintro ⟨b83, rfl, rfl⟩
      have hargs : [fs, (bitsR 16 b)].map List.length = [16, 16] := by simp [hfl, hbl]
      have happ : applyE op [xs, (inL 16)] = (formF op [16, 16]).2 := by rw [apply_form]; simp [hxl, hil]
      have hb2 : ∀ l ∈ [xs, (inL 16)].flatten, has (S0 16) l := fun l hl => by
        obtain ⟨r, h1, h2⟩ := List.mem_flatten.1 hl
        rcases List.mem_cons.1 h1 with rfl | h1
        · exact hxh l h2
        · rw [List.mem_singleton.1 h1] at h2; exact hin1 l h2
      have hl2 : ∀ l ∈ [xs, (inL 16)], l.length ≤ 1000000000 := fun l hl => by
        rcases List.mem_cons.1 hl with rfl | hl
        · omega
        · rw [List.mem_singleton.1 hl]; omega
      refine g_call (Hin := []) (Hr := ?hr14) (R := ?rr14) rfl rfl rfl ?hin14 ?hc14 ?hk14
      case hin14 => repeat' (first | exact Cover.nil | exact Take.here | apply Cover.cons | apply Take.there)
      case hc14 => intro ρ' hρ hR; exact (by have := form_ok (ρ := ρ') (wc := 2) (ws := [16, 16]) op (RSl.of_blk (k := 2) (size := 1) (cs := [Value.int .i64 16, Value.int .i64 16]) (Take.ro (A := Blk b83 (.cells [.int .i64 16, .int .i64 16].toArray 3 (0, 0))) (by repeat' (first | exact Take.here | apply Take.there)) hR).blk (Nat.le_refl _)) (by decide) (fun k => by rcases k with _ | _ | k <;> simp); exact this)
      rintro _ _ ⟨rfl, rfl⟩
      refine g_pure (p_move rfl) rfl ?_
      refine g_pure (p_extract rfl rfl) rfl ?_
      refine g_pure (p_extract rfl rfl) rfl ?_
      refine g_pure (p_assign rfl) rfl ?_
      refine g_pure (p_assign rfl) rfl ?_
      refine g_nil ?_
      refine g_qt ?_
      refine g_seq ?_
      refine g_region ?_
      refine g_pure (p_move rfl) rfl ?_
      refine g_pure (p_move rfl) rfl ?_
      refine g_pure (p_move rfl) rfl ?_
      refine g_pure (p_move rfl) rfl ?_
      refine g_eff (e_bs (xs := [.tmp 90, .tmp 91]) rfl rfl rfl (by rfl) (by rfl) rfl (by rfl)) rfl (fun _ _ => ?_)
      rintro ⟨b92, rfl, rfl⟩
      by_cases h0 : (formF op [16, 16]).2 = 0
      · have hform := form_ok0 h0
        have hw1 := hform.2.2.1
        have ho16 : outF op ≤ 16 := by unfold outF; split <;> omega
        have hcirc := circ_law (op := op) (args := [fs, (bitsR 16 b)]) (by rw [hargs]; exact h0)
        have hfa := form_apply (op := op) (args := [fs, (bitsR 16 b)]) (by rw [hargs]; exact h0)
        have hdF : (dF op [fs, (bitsR 16 b)]).1 = bitsR (outF op) (opF op (sg fs) (sg (bitsR 16 b))) := by unfold dF; rw [hargs, if_pos h0]; rfl
        rw [hdF] at hcirc
        have hop := opF_in op (sg fs) (sg (bitsR 16 b))
        rw [h0, hw1]
        refine g_call (Hin := [Gr p (S0 16)]) (Hr := ?hr15) (R := ?rr15) rfl rfl rfl ?hin15 ?hc15 ?hk15
        case hin15 => repeat' (first | exact Cover.nil | exact Take.here | apply Cover.cons | apply Take.there)
        case hc15 => intro ρ' hρ hR; exact bapply_yes p op hw0 (by omega) (two_rows hxl hil (Take.ro (A := Blk b92 (.cells [.slice xa 16 xc, .slice la 16 lc].toArray 26 (0, 0))) (by repeat' (first | exact Take.here | apply Take.there)) hR).blk (RSl.of_own (Take.ro (A := OwnSl 27 1 xa 16 xc (xs.map encI)) (by repeat' (first | exact Take.here | apply Take.there)) hR)) (RSl.of_own (Take.ro (A := OwnSl 27 1 la 16 lc ((inL 16).map encI)) (by repeat' (first | exact Take.here | apply Take.there)) hR))) (by simp) hl2 hb2 (by rw [happ]; exact h0)
        rintro _ _ ⟨a2, c2, out, T, rfl, rfl, u, d⟩
        have hval : operateF op (([xs, (inL 16)].headD []).map (litv (vals (S0 16) (bitsR 16 b)))) (([xs, (inL 16)].getLastD []).map (litv (vals (S0 16) (bitsR 16 b)))) = bitsR (outF op) (opF op (sg fs) (sg (bitsR 16 b))) := by
          show operateF op (xs.map (litv (vals (S0 16) (bitsR 16 b)))) ((inL 16).map (litv (vals (S0 16) (bitsR 16 b)))) = _
          rw [hxd]; try rw [hin]
          exact hcirc
        have hout : out.length = outF op := by have := d.len (bitsR 16 b); rw [← this, hval, bitsR_len]
        have hev : eval1 T (bitsR 16 b) out = (bitsR (outF op) (opF op (sg fs) (sg (bitsR 16 b))), 0) := by rw [eval_up u hbl d, hval]
        rw [hout]
        refine g_pure (p_move rfl) rfl ?_
        refine g_pure (p_extract rfl rfl) rfl ?_
        refine g_pure (p_extract rfl rfl) rfl ?_
        refine g_pure (p_assign rfl) rfl ?_
        refine g_pure (p_assign rfl) rfl ?_
        refine g_nil ?_
        refine g_qt ?_
        refine g_seq ?_
        refine g_seq ?_
        refine g_region ?_
        refine g_pure (p_move rfl) rfl ?_
        refine g_pure (p_move rfl) rfl ?_
        refine g_pure (p_neqF rfl rfl rfl) rfl ?_
        refine g_pure (p_move rfl) rfl ?_
        refine g_yes rfl rfl ?_
        refine g_pure (p_move rfl) rfl ?_
        refine g_yes rfl rfl ?_
        refine g_pure (p_len (by rfl) rfl) rfl ?_
        refine g_yes rfl rfl ?_
        refine g_pure (p_move rfl) rfl ?_
        refine g_yes rfl rfl ?_
        refine g_pure (p_neqF rfl rfl rfl) rfl ?_
        first | refine g_pure (p_pickt rfl rfl) rfl ?_ | refine g_pure (p_pickf rfl rfl) rfl ?_
        refine g_nil ?_
        refine g_qt ?_
        refine g_iff rfl ?_
        refine g_skip ?_
        refine g_qt ?_
        refine g_seq ?_
        refine g_seq ?_
        refine g_region ?_
        refine g_pure (p_move rfl) rfl ?_
        refine g_pure (p_neqF rfl rfl rfl) rfl ?_
        refine g_nil ?_
        refine g_qt ?_
        refine g_iff rfl ?_
        refine g_skip ?_
        refine g_qt ?_
        refine g_seq ?_
        refine g_region ?_
        refine g_pure (p_move rfl) rfl ?_
        refine g_pure (p_move rfl) rfl ?_
        refine g_call (Hin := []) (Hr := ?hr16) (R := ?rr16) rfl rfl rfl ?hin16 ?hc16 ?hk16
        case hin16 => repeat' (first | exact Cover.nil | exact Take.here | apply Cover.cons | apply Take.there)
        case hc16 => intro ρ' hρ hR; exact (by have := number_ok (ρ := ρ') (bc := fc) (bs := fs) (by rw [hfl]; exact RSl.of_own (Take.ro (A := OwnSl 4 1 fa 16 fc (fs.map encB)) (by repeat' (first | exact Take.here | apply Take.there)) hR)) (by omega); rw [hfl] at this; exact this)
        rintro _ _ ⟨rfl, rfl⟩
        refine g_pure (p_move rfl) rfl ?_
        refine g_call (Hin := []) (Hr := ?hr17) (R := ?rr17) rfl rfl rfl ?hin17 ?hc17 ?hk17
        case hin17 => repeat' (first | exact Cover.nil | exact Take.here | apply Cover.cons | apply Take.there)
        case hc17 => intro ρ' hρ hR; exact (by have := number_ok (ρ := ρ') (bc := ic) (bs := (bitsR 16 b)) (by rw [hbl]; exact RSl.of_own (Take.ro (A := OwnSl 4 1 ia 16 ic ((bitsR 16 b).map encB)) (by repeat' (first | exact Take.here | apply Take.there)) hR)) (by omega); rw [hbl] at this; exact this)
        rintro _ _ ⟨rfl, rfl⟩
        refine g_eff (e_bs (xs := [.tmp 111, .tmp 113]) rfl rfl rfl (by rfl) (by rfl) rfl (by rfl)) rfl (fun _ _ => ?_)
        rintro ⟨b114, rfl, rfl⟩
        refine g_call (Hin := []) (Hr := ?hr18) (R := ?rr18) rfl rfl rfl ?hin18 ?hc18 ?hk18
        case hin18 => repeat' (first | exact Cover.nil | exact Take.here | apply Cover.cons | apply Take.there)
        case hc18 => intro ρ' hρ hR; exact (by have := Go.Proofs.Ytkebblmmgcgjkaa.apply_ok (ρ := ρ') (ac := 2) (args := [sg fs, sg (bitsR 16 b)]) op (RSl.of_blk (k := 2) (size := 1) (cs := [Value.int .i64 (sg fs), Value.int .i64 (sg (bitsR 16 b))]) (Take.ro (A := Blk b114 (.cells [.int .i64 (sg fs), .int .i64 (sg (bitsR 16 b))].toArray 3 (0, 0))) (by repeat' (first | exact Take.here | apply Take.there)) hR).blk (Nat.le_refl _)) (by simp); rw [show applyF op [sg fs, sg (bitsR 16 b)] = (opF op (sg fs) (sg (bitsR 16 b)), 0) from hfa] at this; exact this)
        rintro _ _ ⟨rfl, rfl⟩
        refine g_pure (p_move rfl) rfl ?_
        refine g_pure (p_extract rfl rfl) rfl ?_
        refine g_pure (p_extract rfl rfl) rfl ?_
        refine g_pure (p_assign rfl) rfl ?_
        refine g_pure (p_assign rfl) rfl ?_
        refine g_nil ?_
        refine g_qt ?_
        refine g_seq ?_
        refine g_region ?_
        refine g_pure (p_move rfl) rfl ?_
        refine g_pure (p_move rfl) rfl ?_
        refine g_pure (p_move rfl) rfl ?_
        refine g_call (Hin := []) (Hr := ?hr19) (R := ?rr19) rfl rfl rfl ?hin19 ?hc19 ?hk19
        case hin19 => repeat' (first | exact Cover.nil | exact Take.here | apply Cover.cons | apply Take.there)
        case hc19 => intro ρ' hρ hR; exact (by have := eval_at (ρ := ρ') (p := p) (ia := ia) (ic := ic) (al := a2) (cl := c2) hev (by rw [hbl]; exact RSl.of_own (Take.ro (A := OwnSl 4 1 ia 16 ic ((bitsR 16 b).map encB)) (by repeat' (first | exact Take.here | apply Take.there)) hR)) (by rw [hout]; exact RSl.of_own (Take.ro (A := OwnSl 27 1 a2 (outF op) c2 (out.map encI)) (by repeat' (first | exact Take.here | apply Take.there)) hR)) (by omega) (by omega) (i64_of u.wf d) (Take.ro (A := Gr p T) (by repeat' (first | exact Take.here | apply Take.there)) hR); rw [hbl, hout, bitsR_len] at this; exact this)
        rintro _ _ ⟨va, vc, rfl, rfl⟩
        refine g_pure (p_move rfl) rfl ?_
        refine g_pure (p_extract rfl rfl) rfl ?_
        refine g_pure (p_extract rfl rfl) rfl ?_
        refine g_pure (p_assign rfl) rfl ?_
        refine g_pure (p_assign rfl) rfl ?_
        refine g_nil ?_
        refine g_qt ?_
        refine g_seq ?_
        refine g_region ?_
        refine g_pure (p_move rfl) rfl ?_
        refine g_pure (p_eqlT rfl rfl rfl) rfl ?_
        refine g_pure (p_move rfl) rfl ?_
        refine g_yes rfl rfl ?_
        refine g_pure (p_move rfl) rfl ?_
        refine g_yes rfl rfl ?_
        refine g_pure (p_eqlT rfl rfl rfl) rfl ?_
        first | refine g_pure (p_pickt rfl rfl) rfl ?_ | refine g_pure (p_pickf rfl rfl) rfl ?_
        refine g_pure (p_move rfl) rfl ?_
        refine g_yes rfl rfl ?_
        refine g_pure (p_move rfl) rfl ?_
        refine g_yes rfl rfl ?_
        refine g_pure (p_move rfl) rfl ?_
        refine g_yes rfl rfl ?_
        refine g_pure (p_move rfl) rfl ?_
        refine g_yes rfl rfl ?_
        refine g_call (Hin := []) (Hr := ?hr20) (R := ?rr20) rfl rfl rfl ?hin20 ?hc20 ?hk20
        case hin20 => repeat' (first | exact Cover.nil | exact Take.here | apply Cover.cons | apply Take.there)
        case hc20 => intro ρ' hρ hR; exact dbits_ok (opF op (sg fs) (sg (bitsR 16 b))) (by unfold I64; omega) (outF op) (by omega)
        rintro _ _ ⟨wa, wc, rfl, rfl⟩
        refine g_yes rfl rfl ?_
        refine g_call (Hin := []) (Hr := ?hr21) (R := ?rr21) rfl rfl rfl ?hin21 ?hc21 ?hk21
        case hin21 => repeat' (first | exact Cover.nil | exact Take.here | apply Cover.cons | apply Take.there)
        case hc21 => intro ρ' hρ hR; exact bools_n (bitsR_len _ _) rfl (RSl.of_own (Take.ro (A := OwnSl 4 1 va (outF op) vc ((bitsR (outF op) (opF op (sg fs) (sg (bitsR 16 b)))).map encB)) (by repeat' (first | exact Take.here | apply Take.there)) hR)) (RSl.of_own (Take.ro (A := OwnSl 4 1 wa (outF op) wc ((bitsR (outF op) (opF op (sg fs) (sg (bitsR 16 b)))).map encB)) (by repeat' (first | exact Take.here | apply Take.there)) hR)) (by omega)
        rintro _ _ ⟨rfl, rfl⟩
        first | refine g_pure (p_pickt rfl rfl) rfl ?_ | refine g_pure (p_pickf rfl rfl) rfl ?_
        refine g_pure (p_move rfl) rfl ?_
        refine g_yes rfl rfl ?_
        refine g_call (Hin := []) (Hr := ?hr22) (R := ?rr22) rfl rfl rfl ?hin22 ?hc22 ?hk22
        case hin22 => repeat' (first | exact Cover.nil | exact Take.here | apply Cover.cons | apply Take.there)
        case hc22 => intro ρ' hρ hR; exact blives_ok
        rintro _ _ ⟨rfl, rfl⟩
        first | refine g_pure (p_pickt rfl rfl) rfl ?_ | refine g_pure (p_pickf rfl rfl) rfl ?_
        refine g_pure (p_assign rfl) rfl ?_
        refine g_nil ?_
        refine g_qt ?_
        refine g_ret ?_
        exact g_post (Ho := []) (rs := [.tmp 10]) rfl (.tmp rfl .nil) rfl .nil
      · have hw1 : (formF op [16, 16]).1 = 0 := by
          revert h0
          unfold formF
          (repeat' split) <;> simp
        rw [hw1]
        refine g_call (Hin := [Gr p (S0 16)]) (Hr := ?hr23) (R := ?rr23) rfl rfl rfl ?hin23 ?hc23 ?hk23
        case hin23 => repeat' (first | exact Cover.nil | exact Take.here | apply Cover.cons | apply Take.there)
        case hc23 => intro ρ' hρ hR; exact (by have := bapply_no (ρ := ρ') (al := some ⟨b92, 0, none⟩) (cl := 2) p op hw0 (by omega) (two_rows hxl hil (Take.ro (A := Blk b92 (.cells [.slice xa 16 xc, .slice la 16 lc].toArray 26 (0, 0))) (by repeat' (first | exact Take.here | apply Take.there)) hR).blk (RSl.of_own (Take.ro (A := OwnSl 27 1 xa 16 xc (xs.map encI)) (by repeat' (first | exact Take.here | apply Take.there)) hR)) (RSl.of_own (Take.ro (A := OwnSl 27 1 la 16 lc ((inL 16).map encI)) (by repeat' (first | exact Take.here | apply Take.there)) hR))) (by simp) hl2 hb2 (by rw [happ]; exact h0); rw [happ] at this; exact this)
        rintro _ _ ⟨rfl, rfl⟩
        refine g_pure (p_move rfl) rfl ?_
        refine g_pure (p_extract rfl rfl) rfl ?_
        refine g_pure (p_extract rfl rfl) rfl ?_
        refine g_pure (p_assign rfl) rfl ?_
        refine g_pure (p_assign rfl) rfl ?_
        refine g_nil ?_
        refine g_qt ?_
        refine g_seq ?_
        refine g_seq ?_
        refine g_region ?_
        refine g_pure (p_move rfl) rfl ?_
        refine g_pure (p_move rfl) rfl ?_
        refine g_pure (p_neqF rfl rfl rfl) rfl ?_
        refine g_pure (p_move rfl) rfl ?_
        refine g_yes rfl rfl ?_
        refine g_pure (p_move rfl) rfl ?_
        refine g_yes rfl rfl ?_
        refine g_pure (p_len (by rfl) rfl) rfl ?_
        refine g_yes rfl rfl ?_
        refine g_pure (p_move rfl) rfl ?_
        refine g_yes rfl rfl ?_
        refine g_pure (p_neqF rfl rfl rfl) rfl ?_
        first | refine g_pure (p_pickt rfl rfl) rfl ?_ | refine g_pure (p_pickf rfl rfl) rfl ?_
        refine g_nil ?_
        refine g_qt ?_
        refine g_iff rfl ?_
        refine g_skip ?_
        refine g_qt ?_
        refine g_seq ?_
        refine g_seq ?_
        refine g_region ?_
        refine g_pure (p_move rfl) rfl ?_
        refine g_pure (p_neqT rfl rfl h0) rfl ?_
        refine g_nil ?_
        refine g_qt ?_
        refine g_ift rfl ?_
        refine g_seq ?_
        refine g_region ?_
        refine g_call (Hin := []) (Hr := ?hr24) (R := ?rr24) rfl rfl rfl ?hin24 ?hc24 ?hk24
        case hin24 => repeat' (first | exact Cover.nil | exact Take.here | apply Cover.cons | apply Take.there)
        case hc24 => intro ρ' hρ hR; exact blives_ok
        rintro _ _ ⟨rfl, rfl⟩
        refine g_pure (p_assign rfl) rfl ?_
        refine g_nil ?_
        refine g_qt ?_
        refine g_ret ?_
        refine g_qt_ret ?_
        exact g_post (Ho := []) (rs := [.tmp 10]) rfl (.tmp rfl .nil) rfl .nil
end Go.Proofs.Ytkebblmmgcgjkaa
