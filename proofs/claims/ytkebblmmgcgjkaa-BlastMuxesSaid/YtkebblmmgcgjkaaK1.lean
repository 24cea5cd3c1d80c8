/- Chapter 38: values of bits; the document's operators. Conditions: none. -/
import Derived.Test.YtkebblmmgcgjkaaK0
namespace Go.Z.Bit
set_option maxRecDepth 8000
set_option linter.unusedVariables false
set_option linter.unusedSimpArgs false
set_option linter.unusedSectionVars false
open Go Go.Z Go.Z.Val Go.Z.Aig
theorem sg_of {es : List En} {t : Int} {bs : List Bool} (h : bs.length = widthN es t) : sg bs = if t = 2 ∧ 32767 < (num bs : Int) then (num bs : Int) - 65536 else num bs := by
  unfold sg
  rw [h]
  by_cases h2 : t = 2
  · rw [widthN_16.2 h2]
    by_cases h3 : 32768 ≤ num bs
    · rw [if_pos ⟨rfl, h3⟩, if_pos ⟨h2, by omega⟩]
    · rw [if_neg (fun h => h3 h.2), if_neg (fun h => by have := h.2; omega)]
  · rw [if_neg (fun h => h2 (widthN_16.1 h.1)), if_neg (fun h => h2 h.1)]
theorem pow40 {k : Nat} (h : k ≤ 40) : 2 ^ k ≤ 1099511627776 := by
  have h2 : (2 : Nat) ^ k ≤ 2 ^ 40 := Nat.pow_le_pow_right (by decide) h
  have h3 : (2 : Nat) ^ 40 = 1099511627776 := by decide
  rwa [h3] at h2
end Go.Z.Bit
namespace Go.Proofs.Ytkebblmmgcgjkaa
set_option maxRecDepth 8000
set_option linter.unusedVariables false
set_option linter.unusedSimpArgs false
set_option linter.unusedSectionVars false
open Go Go.Z Go.Z.Val Go.Z.Aig Go.Z.Bit

variable {ρ : Nat → Obj → Prop} {ea : Option Addr} {ec : Nat} {es : List En} {ba : Option Addr} {bc : Nat} {bs : List Bool}
theorem brd {ρ : Nat → Obj → Prop} {al : Option Addr} {bs : List Bool} (h : RSl ρ 1 al bs.length (bs.map encB)) : ∃ b off cs T fz, 0 < bs.length → al = some ⟨b, off, none⟩ ∧ ρ b (.cells (cs : List Value).toArray T fz) ∧ ∀ i (hi : i < bs.length), cs[off + i * 1]? = some (.bool bs[i]) := by
  obtain ⟨h1, b, off, cs, T, fz, h2⟩ := h
  refine ⟨b, off, cs, T, fz, fun h0 => ⟨(h2 h0).1, (h2 h0).2.1, fun i hi => (h2 h0).2.2 _ _ ?_⟩⟩
  rw [Nat.mul_one, List.getElem?_map, List.getElem?_eq_getElem hi]; rfl
theorem bvalue_ok (h : EnR ρ ea es) (hl : es.length ≤ maxLen) (t : Int) (ht : I64 t) (hb : RSl ρ 1 ba bs.length (bs.map encB)) (hn : bs.length ≤ 9223372036854775807) : Con Try.prog ρ 25 #[.slice ea es.length ec, .int .i64 t, .slice ba bs.length bc] []
    (fun u H => u = .tuple #[.int .i64 (valueF es t bs).1, .int .i64 (valueF es t bs).2] ∧ H = []) := by
  obtain ⟨b1, o1, cs1, T1, fz1, hr⟩ := brd hb
  have hwl := widthN_le es t
  refine con_intro Try.func25 Try.call25 rfl Try.ntmps25 rfl (L := [(0, _), (1, _), (2, _)]) rfl fun w hh => ?_
  refine g_seq ?_
  refine g_region ?_
  refine g_pure (p_assign rfl) rfl ?_
  refine g_pure (p_assign rfl) rfl ?_
  refine g_nil ?_
  refine g_qt ?_
  refine g_seq ?_
  refine g_region ?_
  refine g_pure (p_move rfl) rfl ?_
  refine g_pure (p_move rfl) rfl ?_
  refine g_call (Hin := []) (Hr := ?hr1) (R := ?rr1) rfl rfl rfl ?hin1 ?hc1 ?hk1
  case hin1 => repeat' (first | exact Cover.nil | exact Take.here | apply Cover.cons | apply Take.there)
  case hc1 => intro ρ' hρ hR; exact width_ok (h.mono hρ) hl t ht
  rintro _ _ ⟨rfl, rfl⟩
  refine g_pure (p_assign rfl) rfl ?_
  refine g_nil ?_
  refine g_qt ?_
  refine g_seq ?_
  refine g_seq ?_
  refine g_region ?_
  refine g_pure (p_move rfl) rfl ?_
  refine g_pure (p_eql rfl rfl) rfl ?_
  refine g_nil ?_
  refine g_qt ?_
  refine g_ifd rfl (fun a1 => ?_) (fun a1 => ?_)
  · refine g_seq ?_
    refine g_region ?_
    refine g_pure (p_assign rfl) rfl ?_
    refine g_pure (p_assign rfl) rfl ?_
    refine g_nil ?_
    refine g_qt ?_
    refine g_ret ?_
    refine g_qt_ret ?_
    exact g_post (Ho := []) (rs := [.tmp 6, .tmp 7]) rfl (.tmp rfl (.tmp rfl .nil)) ⟨by unfold valueF; rw [if_pos (by omega)]; rfl, rfl⟩ (by repeat' (first | exact Cover.nil | exact Take.here | apply Cover.cons | apply Take.there))
  · refine g_skip ?_
    refine g_qt ?_
    refine g_seq ?_
    refine g_seq ?_
    refine g_region ?_
    refine g_pure (p_move rfl) rfl ?_
    refine g_pure (p_len (by rfl) rfl) rfl ?_
    refine g_pure (p_move rfl) rfl ?_
    refine g_pure (p_neq rfl rfl) rfl ?_
    refine g_nil ?_
    refine g_qt ?_
    refine g_ifnd rfl (fun a2 => ?_) (fun a2 => ?_)
    · refine g_seq ?_
      refine g_region ?_
      refine g_pure (p_assign rfl) rfl ?_
      refine g_pure (p_assign rfl) rfl ?_
      refine g_nil ?_
      refine g_qt ?_
      refine g_ret ?_
      refine g_qt_ret ?_
      exact g_post (Ho := []) (rs := [.tmp 6, .tmp 7]) rfl (.tmp rfl (.tmp rfl .nil)) ⟨by unfold valueF; rw [if_neg (by omega), if_pos (by omega)]; rfl, rfl⟩ (by repeat' (first | exact Cover.nil | exact Take.here | apply Cover.cons | apply Take.there))
    · have hlen : bs.length = widthN es t := by omega
      refine g_skip ?_
      refine g_qt ?_
      refine g_seq ?_
      refine g_region ?_
      refine g_pure (p_assign rfl) rfl ?_
      refine g_nil ?_
      refine g_qt ?_
      refine g_seq ?_
      refine g_seq ?_
      refine g_region ?_
      refine g_pure (p_move rfl) rfl ?_
      refine g_pure (p_len (by rfl) rfl) rfl ?_
      refine g_pure (p_move rfl) rfl ?_
      refine g_nil ?_
      refine g_qt ?_
      refine g_block ?_
      refine g_loop (fun k : Nat => [(0, .slice ea es.length ec), (1, .int .i64 t), (9, .int .i64 (num (bs.take k) : Nat)), (21, .slice ba bs.length bc), (22, .int .i64 bs.length), (23, .int .i64 k)]) (fun _ => []) (fun k => k ≤ bs.length) (fun k => bs.length - k) 0 (Nat.zero_le _) (by (repeat (first | exact trivial | refine ⟨by rfl, ?_⟩)); done) .nil ?_
      rintro k hk
      refine g_seq ?_
      refine g_region ?_
      refine g_pure (p_lss rfl rfl) rfl ?_
      refine g_nil ?_
      refine g_qt ?_
      refine g_seq ?_
      refine g_ifd rfl (fun q => ?_) (fun q => ?_)
      · have hkl : k < bs.length := by omega
        obtain ⟨r1, r2, r3⟩ := hr (by omega)
        have hsm : num (bs.take k) < 1099511627776 := num_small (by rw [List.length_take]; omega)
        have hp := pow40 (show k ≤ 40 by omega)
        have hnt := num_take_succ hkl
        rw [List.getD_eq_getElem?_getD, List.getElem?_eq_getElem hkl, Option.getD_some] at hnt
        refine g_skip ?_
        refine g_qt ?_
        refine g_seq ?_
        refine g_block ?_
        refine g_seq ?_
        refine g_region ?_
        refine g_pure (p_move rfl) rfl ?_
        refine g_pure (p_indexAddr rfl rfl (by omega) (fun _ => r1)) rfl ?_
        refine g_pure (p_load (by rfl) rfl (Has.ro r2) (r3 k hkl)) rfl ?_
        refine g_pure (p_assign rfl) rfl ?_
        refine g_pure (p_assign rfl) rfl ?_
        refine g_nil ?_
        refine g_qt ?_
        refine g_seq ?_
        refine g_region ?_
        refine g_pure (p_move rfl) rfl ?_
        refine g_nil ?_
        refine g_qt ?_
        refine g_if rfl (fun q2 => ?_) (fun q2 => ?_)
        · rw [q2] at hnt
          refine g_region ?_
          refine g_pure (p_move rfl) rfl ?_
          refine g_pure (p_move rfl) rfl ?_
          refine g_pure (p_shl rfl rfl (by omega)) rfl ?_
          rw [shl1 (by omega)]
          generalize 2 ^ k = P at hp hnt ⊢
          first | refine g_pure (p_addi rfl rfl (by omega)) rfl ?_ | refine g_pure (p_add rfl rfl) rfl ?_
          refine g_pure (p_assign rfl) rfl ?_
          refine g_nil ?_
          refine g_qb ?_
          refine g_qt ?_
          refine g_region ?_
          first | refine g_pure (p_addi rfl rfl (by omega)) rfl ?_ | refine g_pure (p_add rfl rfl) rfl ?_
          refine g_pure (p_move rfl) rfl ?_
          refine g_nil ?_
          refine g_qn ?_
          have e : ((num (bs.take k) : Nat) : Int) + (P : Int) = ((num (bs.take (k + 1)) : Nat) : Int) := by rw [hnt]; simp
          rw [e]
          exact g_next (k + 1) (by (repeat (first | exact trivial | refine ⟨by rfl, ?_⟩)); done) .nil (by omega) (by omega)
        · rw [q2] at hnt
          refine g_skip ?_
          refine g_qb ?_
          refine g_qt ?_
          refine g_region ?_
          first | refine g_pure (p_addi rfl rfl (by omega)) rfl ?_ | refine g_pure (p_add rfl rfl) rfl ?_
          refine g_pure (p_move rfl) rfl ?_
          refine g_nil ?_
          refine g_qn ?_
          have e : num (bs.take k) = num (bs.take (k + 1)) := by rw [hnt]; simp
          rw [e]
          exact g_next (k + 1) (by (repeat (first | exact trivial | refine ⟨by rfl, ?_⟩)); done) .nil (by omega) (by omega)
      · have hke : k = bs.length := by omega
        subst hke
        rw [List.take_of_length_le (Nat.le_refl _)]
        have hsm : num bs < 1099511627776 := num_small (by omega)
        have hsg := sg_of hlen
        refine g_exit ?_
        refine g_qt_exit ?_
        refine g_qn_exit ?_
        refine g_qb_exit ?_
        refine g_qt ?_
        refine g_seq ?_
        refine g_seq ?_
        refine g_region ?_
        refine g_pure (p_move rfl) rfl ?_
        refine g_pure (p_eql rfl rfl) rfl ?_
        refine g_pure (p_move rfl) rfl ?_
        refine g_splitd rfl rfl (fun g1 => ?_) (fun g1 => ?_)
        · refine g_yes rfl rfl ?_
          refine g_pure (p_move rfl) rfl ?_
          refine g_yes rfl rfl ?_
          refine g_pure (p_gtr rfl rfl) rfl ?_
          first | refine g_pure (p_pickt rfl rfl) rfl ?_ | refine g_pure (p_pickf rfl rfl) rfl ?_
          refine g_nil ?_
          refine g_qt ?_
          refine g_ifd rfl (fun g2 => ?_) (fun g2 => ?_)
          · rw [if_pos ⟨g1, g2⟩] at hsg
            refine g_region ?_
            refine g_pure (p_move rfl) rfl ?_
            first | refine g_pure (p_subi rfl rfl (by omega)) rfl ?_ | refine g_pure (p_sub rfl rfl) rfl ?_
            refine g_pure (p_assign rfl) rfl ?_
            refine g_nil ?_
            refine g_qt ?_
            refine g_seq ?_
            refine g_seq ?_
            refine g_region ?_
            refine g_pure (p_move rfl) rfl ?_
            refine g_pure (p_move rfl) rfl ?_
            refine g_pure (p_move rfl) rfl ?_
            rw [← hsg]
            refine g_call (Hin := []) (Hr := ?hr2) (R := ?rr2) rfl rfl rfl ?hin2 ?hc2 ?hk2
            case hin2 => repeat' (first | exact Cover.nil | exact Take.here | apply Cover.cons | apply Take.there)
            case hc2 => intro ρ' hρ hR; exact vhas_ok (h.mono hρ) hl t (sg bs) ht
            rintro _ _ ⟨rfl, rfl⟩
            refine g_pure (p_not rfl) rfl ?_
            refine g_nil ?_
            refine g_qt ?_
            · by_cases hh : tyHas es t (sg bs)
              · rw [decide_eq_true hh]
                refine g_iff rfl ?_
                refine g_skip ?_
                refine g_qt ?_
                refine g_seq ?_
                refine g_region ?_
                refine g_pure (p_move rfl) rfl ?_
                refine g_pure (p_assign rfl) rfl ?_
                refine g_pure (p_assign rfl) rfl ?_
                refine g_nil ?_
                refine g_qt ?_
                refine g_ret ?_
                exact g_post (Ho := []) (rs := [.tmp 6, .tmp 7]) rfl (.tmp rfl (.tmp rfl .nil)) ⟨by unfold valueF; rw [if_neg (by omega), if_neg (by omega), if_pos hh]; rfl, rfl⟩ (by repeat' (first | exact Cover.nil | exact Take.here | apply Cover.cons | apply Take.there))
              · rw [decide_eq_false hh]
                refine g_ift rfl ?_
                refine g_seq ?_
                refine g_region ?_
                refine g_pure (p_assign rfl) rfl ?_
                refine g_pure (p_assign rfl) rfl ?_
                refine g_nil ?_
                refine g_qt ?_
                refine g_ret ?_
                refine g_qt_ret ?_
                exact g_post (Ho := []) (rs := [.tmp 6, .tmp 7]) rfl (.tmp rfl (.tmp rfl .nil)) ⟨by unfold valueF; rw [if_neg (by omega), if_neg (by omega), if_neg hh]; rfl, rfl⟩ (by repeat' (first | exact Cover.nil | exact Take.here | apply Cover.cons | apply Take.there))
          · rw [if_neg (fun h => g2 h.2)] at hsg
            refine g_skip ?_
            refine g_qt ?_
            refine g_seq ?_
            refine g_seq ?_
            refine g_region ?_
            refine g_pure (p_move rfl) rfl ?_
            refine g_pure (p_move rfl) rfl ?_
            refine g_pure (p_move rfl) rfl ?_
            rw [← hsg]
            refine g_call (Hin := []) (Hr := ?hr3) (R := ?rr3) rfl rfl rfl ?hin3 ?hc3 ?hk3
            case hin3 => repeat' (first | exact Cover.nil | exact Take.here | apply Cover.cons | apply Take.there)
            case hc3 => intro ρ' hρ hR; exact vhas_ok (h.mono hρ) hl t (sg bs) ht
            rintro _ _ ⟨rfl, rfl⟩
            refine g_pure (p_not rfl) rfl ?_
            refine g_nil ?_
            refine g_qt ?_
            · by_cases hh : tyHas es t (sg bs)
              · rw [decide_eq_true hh]
                refine g_iff rfl ?_
                refine g_skip ?_
                refine g_qt ?_
                refine g_seq ?_
                refine g_region ?_
                refine g_pure (p_move rfl) rfl ?_
                refine g_pure (p_assign rfl) rfl ?_
                refine g_pure (p_assign rfl) rfl ?_
                refine g_nil ?_
                refine g_qt ?_
                refine g_ret ?_
                exact g_post (Ho := []) (rs := [.tmp 6, .tmp 7]) rfl (.tmp rfl (.tmp rfl .nil)) ⟨by unfold valueF; rw [if_neg (by omega), if_neg (by omega), if_pos hh]; rfl, rfl⟩ (by repeat' (first | exact Cover.nil | exact Take.here | apply Cover.cons | apply Take.there))
              · rw [decide_eq_false hh]
                refine g_ift rfl ?_
                refine g_seq ?_
                refine g_region ?_
                refine g_pure (p_assign rfl) rfl ?_
                refine g_pure (p_assign rfl) rfl ?_
                refine g_nil ?_
                refine g_qt ?_
                refine g_ret ?_
                refine g_qt_ret ?_
                exact g_post (Ho := []) (rs := [.tmp 6, .tmp 7]) rfl (.tmp rfl (.tmp rfl .nil)) ⟨by unfold valueF; rw [if_neg (by omega), if_neg (by omega), if_neg hh]; rfl, rfl⟩ (by repeat' (first | exact Cover.nil | exact Take.here | apply Cover.cons | apply Take.there))
        · rw [if_neg (fun h => g1 h.1)] at hsg
          refine g_no rfl rfl rfl rfl ?_
          refine g_no rfl rfl rfl rfl ?_
          first | refine g_pure (p_pickt rfl rfl) rfl ?_ | refine g_pure (p_pickf rfl rfl) rfl ?_
          refine g_nil ?_
          refine g_qt ?_
          refine g_iff rfl ?_
          refine g_skip ?_
          refine g_qt ?_
          refine g_seq ?_
          refine g_seq ?_
          refine g_region ?_
          refine g_pure (p_move rfl) rfl ?_
          refine g_pure (p_move rfl) rfl ?_
          refine g_pure (p_move rfl) rfl ?_
          rw [← hsg]
          refine g_call (Hin := []) (Hr := ?hr4) (R := ?rr4) rfl rfl rfl ?hin4 ?hc4 ?hk4
          case hin4 => repeat' (first | exact Cover.nil | exact Take.here | apply Cover.cons | apply Take.there)
          case hc4 => intro ρ' hρ hR; exact vhas_ok (h.mono hρ) hl t (sg bs) ht
          rintro _ _ ⟨rfl, rfl⟩
          refine g_pure (p_not rfl) rfl ?_
          refine g_nil ?_
          refine g_qt ?_
          · by_cases hh : tyHas es t (sg bs)
            · rw [decide_eq_true hh]
              refine g_iff rfl ?_
              refine g_skip ?_
              refine g_qt ?_
              refine g_seq ?_
              refine g_region ?_
              refine g_pure (p_move rfl) rfl ?_
              refine g_pure (p_assign rfl) rfl ?_
              refine g_pure (p_assign rfl) rfl ?_
              refine g_nil ?_
              refine g_qt ?_
              refine g_ret ?_
              exact g_post (Ho := []) (rs := [.tmp 6, .tmp 7]) rfl (.tmp rfl (.tmp rfl .nil)) ⟨by unfold valueF; rw [if_neg (by omega), if_neg (by omega), if_pos hh]; rfl, rfl⟩ (by repeat' (first | exact Cover.nil | exact Take.here | apply Cover.cons | apply Take.there))
            · rw [decide_eq_false hh]
              refine g_ift rfl ?_
              refine g_seq ?_
              refine g_region ?_
              refine g_pure (p_assign rfl) rfl ?_
              refine g_pure (p_assign rfl) rfl ?_
              refine g_nil ?_
              refine g_qt ?_
              refine g_ret ?_
              refine g_qt_ret ?_
              exact g_post (Ho := []) (rs := [.tmp 6, .tmp 7]) rfl (.tmp rfl (.tmp rfl .nil)) ⟨by unfold valueF; rw [if_neg (by omega), if_neg (by omega), if_neg hh]; rfl, rfl⟩ (by repeat' (first | exact Cover.nil | exact Take.here | apply Cover.cons | apply Take.there))

theorem unsigned_ok (hb : RSl ρ 1 ba bs.length (bs.map encB)) (hn : bs.length ≤ 40) : Con Try.prog ρ 77 #[.slice ba bs.length bc] [] (fun u H => u = .int .i64 (num bs : Nat) ∧ H = []) := by
  obtain ⟨b1, o1, cs1, T1, fz1, hr⟩ := brd hb
  refine con_intro Try.func77 Try.call77 rfl Try.ntmps77 rfl (L := [(0, _)]) rfl fun w hh => ?_
  refine g_seq ?_
  refine g_region ?_
  refine g_pure (p_assign rfl) rfl ?_
  refine g_nil ?_
  refine g_qt ?_
  refine g_seq ?_
  refine g_region ?_
  refine g_pure (p_assign rfl) rfl ?_
  refine g_nil ?_
  refine g_qt ?_
  refine g_seq ?_
  refine g_seq ?_
  refine g_region ?_
  refine g_pure (p_move rfl) rfl ?_
  refine g_pure (p_len (by rfl) rfl) rfl ?_
  first | refine g_pure (p_subi rfl rfl (by omega)) rfl ?_ | refine g_pure (p_sub rfl rfl) rfl ?_
  refine g_pure (p_assign rfl) rfl ?_
  refine g_nil ?_
  refine g_qt ?_
  refine g_block ?_
  refine g_loop (fun k : Nat => [(0, .slice ba bs.length bc), (3, .int .i64 (num (bs.drop k) : Nat)), (4, .int .i64 ((k : Int) - 1))]) (fun _ => []) (fun k => k ≤ bs.length) (fun k => k) bs.length (Nat.le_refl _) (by rw [List.drop_of_length_le (Nat.le_refl _)]; exact (by (repeat (first | exact trivial | refine ⟨by rfl, ?_⟩)); done)) .nil ?_
  rintro k hk
  refine g_seq ?_
  refine g_seq ?_
  refine g_region ?_
  refine g_pure (p_move rfl) rfl ?_
  refine g_pure (p_geq rfl rfl) rfl ?_
  refine g_nil ?_
  refine g_qt ?_
  refine g_ifd rfl (fun q => ?_) (fun q => ?_)
  · obtain ⟨j, rfl⟩ : ∃ j, k = j + 1 := ⟨k - 1, by omega⟩
    have hkl : j < bs.length := by omega
    obtain ⟨r1, r2, r3⟩ := hr (by omega)
    have hki : (((j + 1 : Nat) : Int) - 1).toNat = j := by omega
    have hx : cs1[o1 + (((j + 1 : Nat) : Int) - 1).toNat * 1]? = some (.bool bs[j]) := by rw [hki]; exact r3 _ _
    have hsm : num (bs.drop (j + 1)) < 1099511627776 := num_small (by rw [List.length_drop]; omega)
    have hnd := num_drop hkl
    rw [List.getD_eq_getElem?_getD, List.getElem?_eq_getElem hkl, Option.getD_some] at hnd
    refine g_skip ?_
    refine g_qt ?_
    refine g_seq ?_
    refine g_block ?_
    refine g_seq ?_
    refine g_region ?_
    refine g_pure (p_move rfl) rfl ?_
    first | refine g_pure (p_muli rfl rfl (by omega)) rfl ?_ | refine g_pure (p_mul rfl rfl) rfl ?_
    refine g_pure (p_assign rfl) rfl ?_
    refine g_nil ?_
    refine g_qt ?_
    refine g_seq ?_
    refine g_region ?_
    refine g_pure (p_move rfl) rfl ?_
    refine g_pure (p_move rfl) rfl ?_
    refine g_pure (p_indexAddr rfl rfl (by omega) (fun _ => r1)) rfl ?_
    refine g_pure (p_load (by rfl) rfl (Has.ro r2) hx) rfl ?_
    refine g_nil ?_
    refine g_qt ?_
    have eI : ((j + 1 : Nat) : Int) - 1 - 1 = ((j : Nat) : Int) - 1 := by omega
    refine g_if rfl (fun q2 => ?_) (fun q2 => ?_)
    · rw [q2] at hnd
      refine g_region ?_
      refine g_pure (p_move rfl) rfl ?_
      first | refine g_pure (p_addi rfl rfl (by omega)) rfl ?_ | refine g_pure (p_add rfl rfl) rfl ?_
      refine g_pure (p_assign rfl) rfl ?_
      refine g_nil ?_
      refine g_qb ?_
      refine g_qt ?_
      refine g_region ?_
      refine g_pure (p_move rfl) rfl ?_
      first | refine g_pure (p_subi rfl rfl (by omega)) rfl ?_ | refine g_pure (p_sub rfl rfl) rfl ?_
      refine g_pure (p_assign rfl) rfl ?_
      refine g_nil ?_
      refine g_qn ?_
      rw [eI]
      have e : 2 * ((num (bs.drop (j + 1)) : Nat) : Int) + 1 = ((num (bs.drop j) : Nat) : Int) := by rw [hnd]; simp; omega
      rw [e]
      exact g_next j (by (repeat (first | exact trivial | refine ⟨by rfl, ?_⟩)); done) .nil (by omega) (by omega)
    · rw [q2] at hnd
      refine g_skip ?_
      refine g_qb ?_
      refine g_qt ?_
      refine g_region ?_
      refine g_pure (p_move rfl) rfl ?_
      first | refine g_pure (p_subi rfl rfl (by omega)) rfl ?_ | refine g_pure (p_sub rfl rfl) rfl ?_
      refine g_pure (p_assign rfl) rfl ?_
      refine g_nil ?_
      refine g_qn ?_
      rw [eI]
      have e : 2 * ((num (bs.drop (j + 1)) : Nat) : Int) = ((num (bs.drop j) : Nat) : Int) := by rw [hnd]; simp
      rw [e]
      exact g_next j (by (repeat (first | exact trivial | refine ⟨by rfl, ?_⟩)); done) .nil (by omega) (by omega)
  · have hk0 : k = 0 := by omega
    subst hk0
    refine g_exit ?_
    refine g_qt_exit ?_
    refine g_qn_exit ?_
    refine g_qb_exit ?_
    refine g_qt ?_
    refine g_seq ?_
    refine g_region ?_
    refine g_pure (p_move rfl) rfl ?_
    refine g_pure (p_assign rfl) rfl ?_
    refine g_nil ?_
    refine g_qt ?_
    refine g_ret ?_
    exact g_post (Ho := []) (rs := [.tmp 2]) rfl (.tmp rfl .nil) ⟨by rw [List.drop_zero]; rfl, rfl⟩ (by repeat' (first | exact Cover.nil | exact Take.here | apply Cover.cons | apply Take.there))
theorem number_ok (hb : RSl ρ 1 ba bs.length (bs.map encB)) (hn : bs.length ≤ 40) : Con Try.prog ρ 38 #[.slice ba bs.length bc] [] (fun u H => u = .int .i64 (sg bs) ∧ H = []) := by
  have hsm : num bs < 1099511627776 := num_small hn
  refine con_intro Try.func38 Try.call38 rfl Try.ntmps38 rfl (L := [(0, _)]) rfl fun w hh => ?_
  refine g_seq ?_
  refine g_region ?_
  refine g_pure (p_assign rfl) rfl ?_
  refine g_nil ?_
  refine g_qt ?_
  refine g_seq ?_
  refine g_region ?_
  refine g_pure (p_move rfl) rfl ?_
  refine g_call (Hin := []) (Hr := ?hr5) (R := ?rr5) rfl rfl rfl ?hin5 ?hc5 ?hk5
  case hin5 => repeat' (first | exact Cover.nil | exact Take.here | apply Cover.cons | apply Take.there)
  case hc5 => intro ρ' hρ hR; exact unsigned_ok (hb.mono hρ) hn
  rintro _ _ ⟨rfl, rfl⟩
  refine g_pure (p_assign rfl) rfl ?_
  refine g_nil ?_
  refine g_qt ?_
  refine g_seq ?_
  refine g_seq ?_
  refine g_region ?_
  refine g_pure (p_move rfl) rfl ?_
  refine g_pure (p_len (by rfl) rfl) rfl ?_
  refine g_pure (p_eql rfl rfl) rfl ?_
  refine g_pure (p_move rfl) rfl ?_
  refine g_splitd rfl rfl (fun g1 => ?_) (fun g1 => ?_)
  · refine g_yes rfl rfl ?_
    refine g_pure (p_move rfl) rfl ?_
    refine g_yes rfl rfl ?_
    refine g_pure (p_geq rfl rfl) rfl ?_
    first | refine g_pure (p_pickt rfl rfl) rfl ?_ | refine g_pure (p_pickf rfl rfl) rfl ?_
    refine g_nil ?_
    refine g_qt ?_
    refine g_ifd rfl (fun g2 => ?_) (fun g2 => ?_)
    · refine g_seq ?_
      refine g_region ?_
      refine g_pure (p_move rfl) rfl ?_
      first | refine g_pure (p_subi rfl rfl (by omega)) rfl ?_ | refine g_pure (p_sub rfl rfl) rfl ?_
      refine g_pure (p_assign rfl) rfl ?_
      refine g_nil ?_
      refine g_qt ?_
      refine g_ret ?_
      refine g_qt_ret ?_
      exact g_post (Ho := []) (rs := [.tmp 2]) rfl (.tmp rfl .nil) ⟨by unfold sg; rw [if_pos ⟨by omega, by omega⟩]; rfl, rfl⟩ (by repeat' (first | exact Cover.nil | exact Take.here | apply Cover.cons | apply Take.there))
    · refine g_skip ?_
      refine g_qt ?_
      refine g_seq ?_
      refine g_region ?_
      refine g_pure (p_move rfl) rfl ?_
      refine g_pure (p_assign rfl) rfl ?_
      refine g_nil ?_
      refine g_qt ?_
      refine g_ret ?_
      exact g_post (Ho := []) (rs := [.tmp 2]) rfl (.tmp rfl .nil) ⟨by unfold sg; rw [if_neg (fun h => by have := h.2; omega)]; rfl, rfl⟩ (by repeat' (first | exact Cover.nil | exact Take.here | apply Cover.cons | apply Take.there))
  · refine g_no rfl rfl rfl rfl ?_
    refine g_no rfl rfl rfl rfl ?_
    first | refine g_pure (p_pickt rfl rfl) rfl ?_ | refine g_pure (p_pickf rfl rfl) rfl ?_
    refine g_nil ?_
    refine g_qt ?_
    refine g_iff rfl ?_
    refine g_skip ?_
    refine g_qt ?_
    refine g_seq ?_
    refine g_region ?_
    refine g_pure (p_move rfl) rfl ?_
    refine g_pure (p_assign rfl) rfl ?_
    refine g_nil ?_
    refine g_qt ?_
    refine g_ret ?_
    exact g_post (Ho := []) (rs := [.tmp 2]) rfl (.tmp rfl .nil) ⟨by unfold sg; rw [if_neg (fun h => by have := h.1; omega)]; rfl, rfl⟩ (by repeat' (first | exact Cover.nil | exact Take.here | apply Cover.cons | apply Take.there))
theorem dvalue_ok (h : EnR ρ ea es) (hl : es.length ≤ maxLen) (t : Int) (ht : I64 t) (hb : RSl ρ 1 ba bs.length (bs.map encB)) (hn : bs.length ≤ 9223372036854775807) : Con Try.prog ρ 26 #[.slice ea es.length ec, .int .i64 t, .slice ba bs.length bc] []
    (fun u H => u = .tuple #[.int .i64 (valueF es t bs).1, .int .i64 (valueF es t bs).2] ∧ H = []) := by
  have hwl := widthN_le es t
  refine con_intro Try.func26 Try.call26 rfl Try.ntmps26 rfl (L := [(0, _), (1, _), (2, _)]) rfl fun w hh => ?_
  refine g_seq ?_
  refine g_region ?_
  refine g_pure (p_assign rfl) rfl ?_
  refine g_pure (p_assign rfl) rfl ?_
  refine g_nil ?_
  refine g_qt ?_
  refine g_seq ?_
  refine g_region ?_
  refine g_pure (p_move rfl) rfl ?_
  refine g_pure (p_move rfl) rfl ?_
  refine g_call (Hin := []) (Hr := ?hr6) (R := ?rr6) rfl rfl rfl ?hin6 ?hc6 ?hk6
  case hin6 => repeat' (first | exact Cover.nil | exact Take.here | apply Cover.cons | apply Take.there)
  case hc6 => intro ρ' hρ hR; exact dwidth_ok (h.mono hρ) hl t ht
  rintro _ _ ⟨rfl, rfl⟩
  refine g_pure (p_assign rfl) rfl ?_
  refine g_nil ?_
  refine g_qt ?_
  refine g_seq ?_
  refine g_seq ?_
  refine g_region ?_
  refine g_pure (p_move rfl) rfl ?_
  refine g_pure (p_eql rfl rfl) rfl ?_
  refine g_nil ?_
  refine g_qt ?_
  refine g_ifd rfl (fun a1 => ?_) (fun a1 => ?_)
  · refine g_seq ?_
    refine g_region ?_
    refine g_pure (p_assign rfl) rfl ?_
    refine g_pure (p_assign rfl) rfl ?_
    refine g_nil ?_
    refine g_qt ?_
    refine g_ret ?_
    refine g_qt_ret ?_
    exact g_post (Ho := []) (rs := [.tmp 6, .tmp 7]) rfl (.tmp rfl (.tmp rfl .nil)) ⟨by unfold valueF; rw [if_pos (by omega)]; rfl, rfl⟩ (by repeat' (first | exact Cover.nil | exact Take.here | apply Cover.cons | apply Take.there))
  · refine g_skip ?_
    refine g_qt ?_
    refine g_seq ?_
    refine g_seq ?_
    refine g_region ?_
    refine g_pure (p_move rfl) rfl ?_
    refine g_pure (p_len (by rfl) rfl) rfl ?_
    refine g_pure (p_move rfl) rfl ?_
    refine g_pure (p_neq rfl rfl) rfl ?_
    refine g_nil ?_
    refine g_qt ?_
    refine g_ifnd rfl (fun a2 => ?_) (fun a2 => ?_)
    · refine g_seq ?_
      refine g_region ?_
      refine g_pure (p_assign rfl) rfl ?_
      refine g_pure (p_assign rfl) rfl ?_
      refine g_nil ?_
      refine g_qt ?_
      refine g_ret ?_
      refine g_qt_ret ?_
      exact g_post (Ho := []) (rs := [.tmp 6, .tmp 7]) rfl (.tmp rfl (.tmp rfl .nil)) ⟨by unfold valueF; rw [if_neg (by omega), if_pos (by omega)]; rfl, rfl⟩ (by repeat' (first | exact Cover.nil | exact Take.here | apply Cover.cons | apply Take.there))
    · have hlen : bs.length = widthN es t := by omega
      refine g_skip ?_
      refine g_qt ?_
      refine g_seq ?_
      refine g_region ?_
      refine g_pure (p_move rfl) rfl ?_
      refine g_call (Hin := []) (Hr := ?hr7) (R := ?rr7) rfl rfl rfl ?hin7 ?hc7 ?hk7
      case hin7 => repeat' (first | exact Cover.nil | exact Take.here | apply Cover.cons | apply Take.there)
      case hc7 => intro ρ' hρ hR; exact number_ok (hb.mono hρ) (by omega)
      rintro _ _ ⟨rfl, rfl⟩
      refine g_pure (p_assign rfl) rfl ?_
      refine g_nil ?_
      refine g_qt ?_
      refine g_seq ?_
      refine g_seq ?_
      refine g_region ?_
      refine g_pure (p_move rfl) rfl ?_
      refine g_pure (p_move rfl) rfl ?_
      refine g_pure (p_move rfl) rfl ?_
      refine g_call (Hin := []) (Hr := ?hr8) (R := ?rr8) rfl rfl rfl ?hin8 ?hc8 ?hk8
      case hin8 => repeat' (first | exact Cover.nil | exact Take.here | apply Cover.cons | apply Take.there)
      case hc8 => intro ρ' hρ hR; exact shas_ok (h.mono hρ) hl t (sg bs) ht
      rintro _ _ ⟨rfl, rfl⟩
      refine g_pure (p_not rfl) rfl ?_
      refine g_nil ?_
      refine g_qt ?_
      by_cases hh : tyHas es t (sg bs)
      · rw [decide_eq_true hh]
        refine g_iff rfl ?_
        refine g_skip ?_
        refine g_qt ?_
        refine g_seq ?_
        refine g_region ?_
        refine g_pure (p_move rfl) rfl ?_
        refine g_pure (p_assign rfl) rfl ?_
        refine g_pure (p_assign rfl) rfl ?_
        refine g_nil ?_
        refine g_qt ?_
        refine g_ret ?_
        exact g_post (Ho := []) (rs := [.tmp 6, .tmp 7]) rfl (.tmp rfl (.tmp rfl .nil)) ⟨by unfold valueF; rw [if_neg (by omega), if_neg (by omega), if_pos hh]; rfl, rfl⟩ (by repeat' (first | exact Cover.nil | exact Take.here | apply Cover.cons | apply Take.there))
      · rw [decide_eq_false hh]
        refine g_ift rfl ?_
        refine g_seq ?_
        refine g_region ?_
        refine g_pure (p_assign rfl) rfl ?_
        refine g_pure (p_assign rfl) rfl ?_
        refine g_nil ?_
        refine g_qt ?_
        refine g_ret ?_
        refine g_qt_ret ?_
        exact g_post (Ho := []) (rs := [.tmp 6, .tmp 7]) rfl (.tmp rfl (.tmp rfl .nil)) ⟨by unfold valueF; rw [if_neg (by omega), if_neg (by omega), if_neg hh]; rfl, rfl⟩ (by repeat' (first | exact Cover.nil | exact Take.here | apply Cover.cons | apply Take.there))
end Go.Proofs.Ytkebblmmgcgjkaa
