/- Own texts, put together: K0 K1 K2 K3 K4 K5 K6 K7 K8. Conditions: as told at each. -/
import Derived.Test.YtkebblmmgcgjkaaMBmJ1
import Derived.Test.YtkebblmmgcgjkaaG3
/- Chapter 38: widths of types, bits of values, values of bits; the document's side. Conditions: none. -/
namespace Go.Z.Bit
set_option maxRecDepth 8000
set_option linter.unusedVariables false
set_option linter.unusedSimpArgs false
set_option linter.unusedSectionVars false
open Go Go.Z Go.Z.Val Go.Z.Aig
def widthN (l : List En) (t : Int) : Nat := if t = 1 then 1 else if t = 2 then 16 else if tagN l t < 1 ∨ 16 < tagN l t then 0 else if tagN l t ≤ 2 then 1 else if tagN l t ≤ 4 then 2 else if tagN l t ≤ 8 then 3 else 4
theorem widthN_le (l : List En) (t : Int) : widthN l t ≤ 16 := by unfold widthN; (repeat' split) <;> omega
theorem widthN_16 {l : List En} {t : Int} : widthN l t = 16 ↔ t = 2 := by unfold widthN; (repeat' split) <;> omega
theorem wrap_small {P : Nat} (h : P ≤ 1099511627776) : IntKind.i64.wrap (P : Int) = P := i64_in (by omega) (by omega)
theorem shl1 {m : Nat} (h : m ≤ 40) : IntKind.i64.wrap (1 * 2 ^ (min ((m : Nat) : Int).toNat IntKind.i64.bits)) = ((2 ^ m : Nat) : Int) := by
  have e : min ((m : Nat) : Int).toNat IntKind.i64.bits = m := by rw [Int.toNat_natCast]; exact Nat.min_eq_left (by show m ≤ 64; omega)
  have h2 : (2 : Nat) ^ m ≤ 2 ^ 40 := Nat.pow_le_pow_right (by decide) h
  have h3 : (2 : Nat) ^ 40 = 1099511627776 := by decide
  have e2 : (2 : Int) ^ m = ((2 ^ m : Nat) : Int) := by rw [Int.natCast_pow]; rfl
  rw [e, Int.one_mul, e2]
  exact wrap_small (by rw [← h3]; exact h2)
theorem width_end {l : List En} {t : Int} {w : Nat} (h1 : ¬ t = 2) (hn : 1 ≤ tagN l t ∧ tagN l t ≤ 16) (hw : 1 ≤ w ∧ w ≤ 5) (hb : w = 1 ∨ ((2 ^ (w - 1) : Nat) : Int) < tagN l t) (he : ¬ ((2 ^ w : Nat) : Int) < tagN l t) : widthN l t = w := by
  have h0 : t = 1 → tagN l t = 2 := fun e => by unfold tagN; rw [if_pos e]
  have hw' : w = 1 ∨ w = 2 ∨ w = 3 ∨ w = 4 ∨ w = 5 := by omega
  unfold widthN
  generalize tagN l t = T at *
  by_cases h : t = 1
  · have := h0 h
    rw [if_pos h]
    rcases hw' with rfl | rfl | rfl | rfl | rfl <;> simp at hb he <;> omega
  · rw [if_neg h, if_neg h1, if_neg (by omega)]
    rcases hw' with rfl | rfl | rfl | rfl | rfl <;> simp at hb he <;> (repeat' split) <;> omega
def constF (l : List En) (t v : Int) : List Bool × Int := if widthN l t = 0 then ([], 10) else if tyHas l t v then (bitsR (widthN l t) v, 0) else ([], 14)
def valueF (l : List En) (t : Int) (b : List Bool) : Int × Int := if widthN l t = 0 then (0, 10) else if b.length ≠ widthN l t then (0, 16) else if tyHas l t (sg b) then (sg b, 0) else (0, 14)
theorem num_drop {l : List Bool} {k : Nat} (h : k < l.length) : num (l.drop k) = (l.getD k false).toNat + 2 * num (l.drop (k + 1)) := by
  rw [drop_getD h, num]
theorem num_small {l : List Bool} (h : l.length ≤ 40) : num l < 1099511627776 := by
  have h1 := num_lt l
  have h2 : (2 : Nat) ^ l.length ≤ 2 ^ 40 := Nat.pow_le_pow_right (by decide) h
  have h3 : (2 : Nat) ^ 40 = 1099511627776 := by decide
  omega
end Go.Z.Bit
namespace Go.Proofs.Ytkebblmmgcgjkaa
set_option maxRecDepth 8000
set_option linter.unusedVariables false
set_option linter.unusedSimpArgs false
set_option linter.unusedSectionVars false
open Go Go.Z Go.Z.Val Go.Z.Aig Go.Z.Bit

variable {ρ : Nat → Obj → Prop} {ea : Option Addr} {ec : Nat} {es : List En}
theorem shas_ok (h : EnR ρ ea es) (hl : es.length ≤ maxLen) (t v : Int) (ht : I64 t) : Con Try.prog ρ 57 #[.slice ea es.length ec, .int .i64 t, .int .i64 v] [] (fun u H => u = .bool (decide (tyHas es t v)) ∧ H = []) := by
  refine con_intro Try.func57 Try.call57 rfl Try.ntmps57 rfl (L := [(0, _), (1, _), (2, _)]) rfl fun w hh => ?_
  refine g_seq ?_
  refine g_region ?_
  refine g_pure (p_assign rfl) rfl ?_
  refine g_nil ?_
  refine g_qt ?_
  refine g_seq ?_
  refine g_seq ?_
  refine g_region ?_
  refine g_pure (p_move rfl) rfl ?_
  refine g_pure (p_eql rfl rfl) rfl ?_
  refine g_nil ?_
  refine g_qt ?_
  refine g_ifdL rfl (fun h1 => ?_) (fun h1 => ?_)
  · refine g_seq ?_
    refine g_region ?_
    refine g_pure (p_move rfl) rfl ?_
    refine g_pure (p_geq rfl rfl) rfl ?_
    refine g_pure (p_move rfl) rfl ?_
    refine g_splitd rfl rfl (fun h2 => ?_) (fun h2 => ?_)
    · refine g_yes rfl rfl ?_
      refine g_pure (p_move rfl) rfl ?_
      refine g_yes rfl rfl ?_
      refine g_pure (p_leq rfl rfl) rfl ?_
      first | refine g_pure (p_pickt rfl rfl) rfl ?_ | refine g_pure (p_pickf rfl rfl) rfl ?_
      refine g_pure (p_assign rfl) rfl ?_
      refine g_nil ?_
      refine g_qt ?_
      refine g_ret ?_
      refine g_qt_ret ?_
      exact g_post (Ho := []) (rs := [.tmp 6]) rfl (.tmp rfl .nil) ⟨by show Value.bool _ = Value.bool _; congr 1; first | (rw [eq_comm, decide_eq_false_iff_not]; unfold tyHas; first | (rw [if_pos (by omega)]; omega) | (rw [if_neg (by omega)]; omega)) | (rw [decide_eq_decide]; unfold tyHas; first | (rw [if_pos (by omega)]; omega) | (rw [if_neg (by omega)]; omega)), rfl⟩ (by repeat' (first | exact Cover.nil | exact Take.here | apply Cover.cons | apply Take.there))
    · refine g_no rfl rfl rfl rfl ?_
      refine g_no rfl rfl rfl rfl ?_
      first | refine g_pure (p_pickt rfl rfl) rfl ?_ | refine g_pure (p_pickf rfl rfl) rfl ?_
      refine g_pure (p_assign rfl) rfl ?_
      refine g_nil ?_
      refine g_qt ?_
      refine g_ret ?_
      refine g_qt_ret ?_
      exact g_post (Ho := []) (rs := [.tmp 6]) rfl (.tmp rfl .nil) ⟨by show Value.bool _ = Value.bool _; congr 1; first | (rw [eq_comm, decide_eq_false_iff_not]; unfold tyHas; first | (rw [if_pos (by omega)]; omega) | (rw [if_neg (by omega)]; omega)) | (rw [decide_eq_decide]; unfold tyHas; first | (rw [if_pos (by omega)]; omega) | (rw [if_neg (by omega)]; omega)), rfl⟩ (by repeat' (first | exact Cover.nil | exact Take.here | apply Cover.cons | apply Take.there))
  · refine g_skip ?_
    refine g_qt ?_
    refine g_seq ?_
    refine g_region ?_
    refine g_pure (p_move rfl) rfl ?_
    refine g_pure (p_geq rfl rfl) rfl ?_
    refine g_pure (p_move rfl) rfl ?_
    refine g_splitd rfl rfl (fun h3 => ?_) (fun h3 => ?_)
    · refine g_yes rfl rfl ?_
      refine g_pure (p_move rfl) rfl ?_
      refine g_yes rfl rfl ?_
      refine g_pure (p_move rfl) rfl ?_
      refine g_yes rfl rfl ?_
      refine g_pure (p_move rfl) rfl ?_
      refine g_yes rfl rfl ?_
      refine g_call (Hin := []) (Hr := ?hr1) (R := ?rr1) rfl rfl rfl ?hin1 ?hc1 ?hk1
      case hin1 => repeat' (first | exact Cover.nil | exact Take.here | apply Cover.cons | apply Take.there)
      case hc1 => intro ρ' hρ hR; exact dsize_ok (h.mono hρ) hl t ht
      rintro _ _ ⟨rfl, rfl⟩
      refine g_yes rfl rfl ?_
      refine g_pure (p_lss rfl rfl) rfl ?_
      first | refine g_pure (p_pickt rfl rfl) rfl ?_ | refine g_pure (p_pickf rfl rfl) rfl ?_
      refine g_pure (p_assign rfl) rfl ?_
      refine g_nil ?_
      refine g_qt ?_
      refine g_ret ?_
      exact g_post (Ho := []) (rs := [.tmp 6]) rfl (.tmp rfl .nil) ⟨by show Value.bool _ = Value.bool _; congr 1; first | (rw [eq_comm, decide_eq_false_iff_not]; unfold tyHas; first | (rw [if_pos (by omega)]; omega) | (rw [if_neg (by omega)]; omega)) | (rw [decide_eq_decide]; unfold tyHas; first | (rw [if_pos (by omega)]; omega) | (rw [if_neg (by omega)]; omega)), rfl⟩ (by repeat' (first | exact Cover.nil | exact Take.here | apply Cover.cons | apply Take.there))
    · refine g_no rfl rfl rfl rfl ?_
      refine g_no rfl rfl rfl rfl ?_
      refine g_no rfl rfl rfl rfl ?_
      refine g_no rfl rfl rfl rfl ?_
      refine g_no rfl rfl rfl rfl ?_
      first | refine g_pure (p_pickt rfl rfl) rfl ?_ | refine g_pure (p_pickf rfl rfl) rfl ?_
      refine g_pure (p_assign rfl) rfl ?_
      refine g_nil ?_
      refine g_qt ?_
      refine g_ret ?_
      exact g_post (Ho := []) (rs := [.tmp 6]) rfl (.tmp rfl .nil) ⟨by show Value.bool _ = Value.bool _; congr 1; first | (rw [eq_comm, decide_eq_false_iff_not]; unfold tyHas; first | (rw [if_pos (by omega)]; omega) | (rw [if_neg (by omega)]; omega)) | (rw [decide_eq_decide]; unfold tyHas; first | (rw [if_pos (by omega)]; omega) | (rw [if_neg (by omega)]; omega)), rfl⟩ (by repeat' (first | exact Cover.nil | exact Take.here | apply Cover.cons | apply Take.there))

theorem width_ok (h : EnR ρ ea es) (hl : es.length ≤ maxLen) (t : Int) (ht : I64 t) : Con Try.prog ρ 23 #[.slice ea es.length ec, .int .i64 t] [] (fun u H => u = .int .i64 (widthN es t : Nat) ∧ H = []) := by
  have hn := tagN_in (t := t) (fun e he => (h.2 e he).2.2.2)
  refine con_intro Try.func23 Try.call23 rfl Try.ntmps23 rfl (L := [(0, _), (1, _)]) rfl fun w hh => ?_
  refine g_seq ?_
  refine g_region ?_
  refine g_pure (p_assign rfl) rfl ?_
  refine g_nil ?_
  refine g_qt ?_
  refine g_seq ?_
  refine g_region ?_
  refine g_pure (p_move rfl) rfl ?_
  refine g_pure (p_move rfl) rfl ?_
  refine g_call (Hin := []) (Hr := ?hr2) (R := ?rr2) rfl rfl rfl ?hin2 ?hc2 ?hk2
  case hin2 => repeat' (first | exact Cover.nil | exact Take.here | apply Cover.cons | apply Take.there)
  case hc2 => intro ρ' hρ hR; exact size_ok (h.mono hρ) hl t ht
  rintro _ _ ⟨rfl, rfl⟩
  refine g_pure (p_assign rfl) rfl ?_
  refine g_nil ?_
  refine g_qt ?_
  refine g_seq ?_
  refine g_block ?_
  refine g_seq ?_
  refine g_region ?_
  refine g_pure (p_move rfl) rfl ?_
  refine g_pure (p_eql rfl rfl) rfl ?_
  refine g_pure (p_assign rfl) rfl ?_
  refine g_nil ?_
  refine g_qt ?_
  refine g_ifd rfl (fun a1 => ?_) (fun a1 => ?_)
  · refine g_seq ?_
    refine g_region ?_
    refine g_pure (p_assign rfl) rfl ?_
    refine g_nil ?_
    refine g_qt ?_
    refine g_ret ?_
    refine g_qb_ret ?_
    refine g_qt_ret ?_
    exact g_post (Ho := []) (rs := [.tmp 4]) rfl (.tmp rfl .nil) ⟨by unfold widthN; rw [if_pos a1]; rfl, rfl⟩ (by repeat' (first | exact Cover.nil | exact Take.here | apply Cover.cons | apply Take.there))
  · refine g_seq ?_
    refine g_region ?_
    refine g_pure (p_move rfl) rfl ?_
    refine g_pure (p_eql rfl rfl) rfl ?_
    refine g_pure (p_assign rfl) rfl ?_
    refine g_nil ?_
    refine g_qt ?_
    refine g_ifd rfl (fun a2 => ?_) (fun a2 => ?_)
    · refine g_seq ?_
      refine g_region ?_
      refine g_pure (p_assign rfl) rfl ?_
      refine g_nil ?_
      refine g_qt ?_
      refine g_ret ?_
      refine g_qb_ret ?_
      refine g_qt_ret ?_
      exact g_post (Ho := []) (rs := [.tmp 4]) rfl (.tmp rfl .nil) ⟨by unfold widthN; rw [if_neg a1, if_pos a2]; rfl, rfl⟩ (by repeat' (first | exact Cover.nil | exact Take.here | apply Cover.cons | apply Take.there))
    · have hw : tagN es t < 1 ∨ 16 < tagN es t → widthN es t = 0 := fun h => by unfold widthN; rw [if_neg a1, if_neg a2, if_pos h]
      refine g_seq ?_
      refine g_region ?_
      refine g_pure (p_move rfl) rfl ?_
      refine g_pure (p_lss rfl rfl) rfl ?_
      refine g_pure (p_move rfl) rfl ?_
      refine g_splitd rfl rfl (fun a3 => ?_) (fun a3 => ?_)
      · refine g_no rfl rfl rfl rfl ?_
        refine g_no rfl rfl rfl rfl ?_
        first | refine g_pure (p_pickt rfl rfl) rfl ?_ | refine g_pure (p_pickf rfl rfl) rfl ?_
        refine g_pure (p_assign rfl) rfl ?_
        refine g_nil ?_
        refine g_qt ?_
        refine g_ift rfl ?_
        refine g_seq ?_
        refine g_region ?_
        refine g_pure (p_assign rfl) rfl ?_
        refine g_nil ?_
        refine g_qt ?_
        refine g_ret ?_
        refine g_qb_ret ?_
        refine g_qt_ret ?_
        exact g_post (Ho := []) (rs := [.tmp 4]) rfl (.tmp rfl .nil) ⟨by rw [hw (.inl a3)]; rfl, rfl⟩ (by repeat' (first | exact Cover.nil | exact Take.here | apply Cover.cons | apply Take.there))
      · refine g_yes rfl rfl ?_
        refine g_pure (p_move rfl) rfl ?_
        refine g_yes rfl rfl ?_
        refine g_pure (p_gtr rfl rfl) rfl ?_
        first | refine g_pure (p_pickt rfl rfl) rfl ?_ | refine g_pure (p_pickf rfl rfl) rfl ?_
        refine g_pure (p_assign rfl) rfl ?_
        refine g_nil ?_
        refine g_qt ?_
        refine g_ifd rfl (fun a4 => ?_) (fun a4 => ?_)
        · refine g_seq ?_
          refine g_region ?_
          refine g_pure (p_assign rfl) rfl ?_
          refine g_nil ?_
          refine g_qt ?_
          refine g_ret ?_
          refine g_qb_ret ?_
          refine g_qt_ret ?_
          exact g_post (Ho := []) (rs := [.tmp 4]) rfl (.tmp rfl .nil) ⟨by rw [hw (.inr a4)]; rfl, rfl⟩ (by repeat' (first | exact Cover.nil | exact Take.here | apply Cover.cons | apply Take.there))
        · refine g_skip ?_
          refine g_qb ?_
          refine g_qt ?_
          refine g_seq ?_
          refine g_region ?_
          refine g_pure (p_assign rfl) rfl ?_
          refine g_nil ?_
          refine g_qt ?_
          refine g_seq ?_
          refine g_block ?_
          refine g_loop (fun k : Nat => [(5, .int .i64 (tagN es t)), (6, .int .i64 k)]) (fun _ => []) (fun k => 1 ≤ k ∧ k ≤ 5 ∧ (k = 1 ∨ ((2 ^ (k - 1) : Nat) : Int) < tagN es t)) (fun k => 5 - k) 1 ⟨by omega, by omega, .inl rfl⟩ (by (repeat (first | exact trivial | refine ⟨by rfl, ?_⟩)); done) .nil ?_
          rintro k ⟨hk1, hk2, hk3⟩
          refine g_seq ?_
          refine g_seq ?_
          refine g_region ?_
          refine g_pure (p_move rfl) rfl ?_
          refine g_pure (p_shl rfl rfl (by omega)) rfl ?_
          refine g_pure (p_move rfl) rfl ?_
          refine g_pure (p_lss rfl rfl) rfl ?_
          refine g_nil ?_
          refine g_qt ?_
          refine g_ifd rfl (fun q => ?_) (fun q => ?_)
          · rw [shl1 (by omega)] at q
            have hk4 : k ≤ 4 := by
              apply Classical.byContradiction
              intro h5
              obtain rfl : k = 5 := by omega
              simp at q; omega
            refine g_skip ?_
            refine g_qt ?_
            refine g_block ?_
            refine g_region ?_
            refine g_pure (p_move rfl) rfl ?_
            first | refine g_pure (p_addi rfl rfl (by omega)) rfl ?_ | refine g_pure (p_add rfl rfl) rfl ?_
            refine g_pure (p_assign rfl) rfl ?_
            refine g_nil ?_
            refine g_qb ?_
            refine g_qn ?_
            exact g_next (k + 1) (by (repeat (first | exact trivial | refine ⟨by rfl, ?_⟩)); done) .nil ⟨by omega, by omega, .inr q⟩ (by omega)
          · rw [shl1 (by omega)] at q
            refine g_exit ?_
            refine g_qt_exit ?_
            refine g_qn_exit ?_
            refine g_qb_exit ?_
            refine g_qt ?_
            refine g_seq ?_
            refine g_region ?_
            refine g_pure (p_move rfl) rfl ?_
            refine g_pure (p_assign rfl) rfl ?_
            refine g_nil ?_
            refine g_qt ?_
            refine g_ret ?_
            exact g_post (Ho := []) (rs := [.tmp 4]) rfl (.tmp rfl .nil) ⟨by rw [width_end a2 (by omega) ⟨hk1, hk2⟩ hk3 q]; rfl, rfl⟩ (by repeat' (first | exact Cover.nil | exact Take.here | apply Cover.cons | apply Take.there))
theorem dwidth_ok (h : EnR ρ ea es) (hl : es.length ≤ maxLen) (t : Int) (ht : I64 t) : Con Try.prog ρ 24 #[.slice ea es.length ec, .int .i64 t] [] (fun u H => u = .int .i64 (widthN es t : Nat) ∧ H = []) := by
  have hn := tagN_in (t := t) (fun e he => (h.2 e he).2.2.2)
  refine con_intro Try.func24 Try.call24 rfl Try.ntmps24 rfl (L := [(0, _), (1, _)]) rfl fun w hh => ?_
  refine g_seq ?_
  refine g_region ?_
  refine g_pure (p_assign rfl) rfl ?_
  refine g_nil ?_
  refine g_qt ?_
  refine g_seq ?_
  refine g_region ?_
  refine g_pure (p_move rfl) rfl ?_
  refine g_pure (p_move rfl) rfl ?_
  refine g_call (Hin := []) (Hr := ?hr3) (R := ?rr3) rfl rfl rfl ?hin3 ?hc3 ?hk3
  case hin3 => repeat' (first | exact Cover.nil | exact Take.here | apply Cover.cons | apply Take.there)
  case hc3 => intro ρ' hρ hR; exact dsize_ok (h.mono hρ) hl t ht
  rintro _ _ ⟨rfl, rfl⟩
  refine g_pure (p_assign rfl) rfl ?_
  refine g_nil ?_
  refine g_qt ?_
  refine g_seq ?_
  refine g_seq ?_
  refine g_region ?_
  refine g_pure (p_move rfl) rfl ?_
  refine g_pure (p_eql rfl rfl) rfl ?_
  refine g_nil ?_
  refine g_qt ?_
  refine g_ifd rfl (fun a2 => ?_) (fun a2 => ?_)
  · refine g_seq ?_
    refine g_region ?_
    refine g_pure (p_assign rfl) rfl ?_
    refine g_nil ?_
    refine g_qt ?_
    refine g_ret ?_
    refine g_qt_ret ?_
    exact g_post (Ho := []) (rs := [.tmp 4]) rfl (.tmp rfl .nil) ⟨by rw [widthN_16.2 a2]; rfl, rfl⟩ (by repeat' (first | exact Cover.nil | exact Take.here | apply Cover.cons | apply Take.there))
  · have hw : tagN es t < 1 ∨ 16 < tagN es t → widthN es t = 0 := fun h => by
      have h0 : t = 1 → tagN es t = 2 := fun e => by unfold tagN; rw [if_pos e]
      unfold widthN; rw [if_neg (by omega), if_neg a2, if_pos h]
    refine g_skip ?_
    refine g_qt ?_
    refine g_seq ?_
    refine g_seq ?_
    refine g_region ?_
    refine g_pure (p_move rfl) rfl ?_
    refine g_pure (p_lss rfl rfl) rfl ?_
    refine g_pure (p_move rfl) rfl ?_
    refine g_splitd rfl rfl (fun a3 => ?_) (fun a3 => ?_)
    · refine g_no rfl rfl rfl rfl ?_
      refine g_no rfl rfl rfl rfl ?_
      first | refine g_pure (p_pickt rfl rfl) rfl ?_ | refine g_pure (p_pickf rfl rfl) rfl ?_
      refine g_nil ?_
      refine g_qt ?_
      refine g_ift rfl ?_
      refine g_seq ?_
      refine g_region ?_
      refine g_pure (p_assign rfl) rfl ?_
      refine g_nil ?_
      refine g_qt ?_
      refine g_ret ?_
      refine g_qt_ret ?_
      exact g_post (Ho := []) (rs := [.tmp 4]) rfl (.tmp rfl .nil) ⟨by rw [hw (.inl a3)]; rfl, rfl⟩ (by repeat' (first | exact Cover.nil | exact Take.here | apply Cover.cons | apply Take.there))
    · refine g_yes rfl rfl ?_
      refine g_pure (p_move rfl) rfl ?_
      refine g_yes rfl rfl ?_
      refine g_pure (p_gtr rfl rfl) rfl ?_
      first | refine g_pure (p_pickt rfl rfl) rfl ?_ | refine g_pure (p_pickf rfl rfl) rfl ?_
      refine g_nil ?_
      refine g_qt ?_
      refine g_ifd rfl (fun a4 => ?_) (fun a4 => ?_)
      · refine g_seq ?_
        refine g_region ?_
        refine g_pure (p_assign rfl) rfl ?_
        refine g_nil ?_
        refine g_qt ?_
        refine g_ret ?_
        refine g_qt_ret ?_
        exact g_post (Ho := []) (rs := [.tmp 4]) rfl (.tmp rfl .nil) ⟨by rw [hw (.inr a4)]; rfl, rfl⟩ (by repeat' (first | exact Cover.nil | exact Take.here | apply Cover.cons | apply Take.there))
      · refine g_skip ?_
        refine g_qt ?_
        refine g_seq ?_
        refine g_region ?_
        refine g_pure (p_assign rfl) rfl ?_
        refine g_nil ?_
        refine g_qt ?_
        refine g_seq ?_
        refine g_block ?_
        refine g_loop (fun k : Nat => [(5, .int .i64 (tagN es t)), (6, .int .i64 k)]) (fun _ => []) (fun k => 1 ≤ k ∧ k ≤ 5 ∧ (k = 1 ∨ ((2 ^ (k - 1) : Nat) : Int) < tagN es t)) (fun k => 5 - k) 1 ⟨by omega, by omega, .inl rfl⟩ (by (repeat (first | exact trivial | refine ⟨by rfl, ?_⟩)); done) .nil ?_
        rintro k ⟨hk1, hk2, hk3⟩
        refine g_seq ?_
        refine g_seq ?_
        refine g_region ?_
        refine g_pure (p_move rfl) rfl ?_
        refine g_pure (p_shl rfl rfl (by omega)) rfl ?_
        refine g_pure (p_move rfl) rfl ?_
        refine g_pure (p_lss rfl rfl) rfl ?_
        refine g_nil ?_
        refine g_qt ?_
        refine g_ifd rfl (fun q => ?_) (fun q => ?_)
        · rw [shl1 (by omega)] at q
          have hk4 : k ≤ 4 := by
            apply Classical.byContradiction
            intro h5
            obtain rfl : k = 5 := by omega
            simp at q; omega
          refine g_skip ?_
          refine g_qt ?_
          refine g_block ?_
          refine g_region ?_
          refine g_pure (p_move rfl) rfl ?_
          first | refine g_pure (p_addi rfl rfl (by omega)) rfl ?_ | refine g_pure (p_add rfl rfl) rfl ?_
          refine g_pure (p_assign rfl) rfl ?_
          refine g_nil ?_
          refine g_qb ?_
          refine g_qn ?_
          exact g_next (k + 1) (by (repeat (first | exact trivial | refine ⟨by rfl, ?_⟩)); done) .nil ⟨by omega, by omega, .inr q⟩ (by omega)
        · rw [shl1 (by omega)] at q
          refine g_exit ?_
          refine g_qt_exit ?_
          refine g_qn_exit ?_
          refine g_qb_exit ?_
          refine g_qt ?_
          refine g_seq ?_
          refine g_region ?_
          refine g_pure (p_move rfl) rfl ?_
          refine g_pure (p_assign rfl) rfl ?_
          refine g_nil ?_
          refine g_qt ?_
          refine g_ret ?_
          exact g_post (Ho := []) (rs := [.tmp 4]) rfl (.tmp rfl .nil) ⟨by rw [width_end a2 (by omega) ⟨hk1, hk2⟩ hk3 q]; rfl, rfl⟩ (by repeat' (first | exact Cover.nil | exact Take.here | apply Cover.cons | apply Take.there))

theorem const_ok (h : EnR ρ ea es) (hl : es.length ≤ maxLen) (t v : Int) (ht : I64 t) (hv : I64 v) : Con Try.prog ρ 21 #[.slice ea es.length ec, .int .i64 t, .int .i64 v] []
    (fun u H => ∃ a c, u = .tuple #[.slice a (constF es t v).1.length c, .int .i64 (constF es t v).2] ∧ H = [OwnSl 27 1 a (constF es t v).1.length c (((constF es t v).1.map lit1).map encI)]) := by
  refine con_intro Try.func21 Try.call21 rfl Try.ntmps21 rfl (L := [(0, _), (1, _), (2, _)]) rfl fun w hh => ?_
  refine g_seq ?_
  refine g_region ?_
  refine g_pure (p_assign rfl) rfl ?_
  refine g_pure (p_assign rfl) rfl ?_
  refine g_nil ?_
  refine g_qt ?_
  refine g_seq ?_
  refine g_region ?_
  refine g_pure (p_move rfl) rfl ?_
  refine g_pure (p_move rfl) rfl ?_
  refine g_call (Hin := []) (Hr := ?hr4) (R := ?rr4) rfl rfl rfl ?hin4 ?hc4 ?hk4
  case hin4 => repeat' (first | exact Cover.nil | exact Take.here | apply Cover.cons | apply Take.there)
  case hc4 => intro ρ' hρ hR; exact width_ok (h.mono hρ) hl t ht
  rintro _ _ ⟨rfl, rfl⟩
  refine g_pure (p_assign rfl) rfl ?_
  refine g_nil ?_
  refine g_qt ?_
  refine g_seq ?_
  refine g_seq ?_
  refine g_region ?_
  refine g_pure (p_move rfl) rfl ?_
  refine g_pure (p_eql rfl rfl) rfl ?_
  refine g_nil ?_
  refine g_qt ?_
  refine g_ifd rfl (fun a1 => ?_) (fun a1 => ?_)
  · refine g_seq ?_
    refine g_region ?_
    refine g_pure (p_assign rfl) rfl ?_
    refine g_pure (p_assign rfl) rfl ?_
    refine g_nil ?_
    refine g_qt ?_
    refine g_ret ?_
    refine g_qt_ret ?_
    refine g_ownnil (e := 27) (size := 1) ?_
    have e : constF es t v = ([], 10) := by unfold constF; rw [if_pos (by omega)]
    exact g_post (rs := [.tmp 6, .tmp 7]) rfl (.tmp rfl (.tmp rfl .nil)) ⟨none, 0, by rw [e]; rfl, by rw [e]⟩ (by repeat' (first | exact Cover.nil | exact Take.here | apply Cover.cons | apply Take.there))
  · refine g_skip ?_
    refine g_qt ?_
    refine g_seq ?_
    refine g_seq ?_
    refine g_region ?_
    refine g_pure (p_move rfl) rfl ?_
    refine g_pure (p_move rfl) rfl ?_
    refine g_pure (p_move rfl) rfl ?_
    refine g_call (Hin := []) (Hr := ?hr5) (R := ?rr5) rfl rfl rfl ?hin5 ?hc5 ?hk5
    case hin5 => repeat' (first | exact Cover.nil | exact Take.here | apply Cover.cons | apply Take.there)
    case hc5 => intro ρ' hρ hR; exact vhas_ok (h.mono hρ) hl t v ht
    rintro _ _ ⟨rfl, rfl⟩
    refine g_pure (p_not rfl) rfl ?_
    refine g_nil ?_
    refine g_qt ?_
    by_cases hh : tyHas es t v
    · rw [decide_eq_true hh]
      refine g_iff rfl ?_
      refine g_skip ?_
      refine g_qt ?_
      refine g_seq ?_
      refine g_region ?_
      refine g_pure (p_move rfl) rfl ?_
      refine g_pure (p_move rfl) rfl ?_
      have e : constF es t v = (bitsR (widthN es t) v, 0) := by unfold constF; rw [if_neg (by omega), if_pos hh]
      have hwl := widthN_le es t
      refine g_call (Hin := []) (Hr := ?hr6) (R := ?rr6) rfl rfl rfl ?hin6 ?hc6 ?hk6
      case hin6 => repeat' (first | exact Cover.nil | exact Take.here | apply Cover.cons | apply Take.there)
      case hc6 => intro ρ' hρ hR; exact constant_ok (widthN es t) v (by omega) hv
      rintro _ _ ⟨a, c, rfl, rfl⟩
      refine g_pure (p_assign rfl) rfl ?_
      refine g_pure (p_assign rfl) rfl ?_
      refine g_nil ?_
      refine g_qt ?_
      refine g_ret ?_
      exact g_post (Ho := [OwnSl 27 1 a (widthN es t) c (((bitsR (widthN es t) v).map lit1).map encI)]) (rs := [.tmp 6, .tmp 7]) rfl (.tmp rfl (.tmp rfl .nil)) ⟨a, c, by rw [e, bitsR_len]; rfl, by rw [e, bitsR_len]⟩ (by repeat' (first | exact Cover.nil | exact Take.here | apply Cover.cons | apply Take.there))
    · rw [decide_eq_false hh]
      refine g_ift rfl ?_
      refine g_seq ?_
      refine g_region ?_
      refine g_pure (p_assign rfl) rfl ?_
      refine g_pure (p_assign rfl) rfl ?_
      refine g_nil ?_
      refine g_qt ?_
      refine g_ret ?_
      refine g_qt_ret ?_
      refine g_ownnil (e := 27) (size := 1) ?_
      have e : constF es t v = ([], 14) := by unfold constF; rw [if_neg (by omega), if_neg hh]
      exact g_post (rs := [.tmp 6, .tmp 7]) rfl (.tmp rfl (.tmp rfl .nil)) ⟨none, 0, by rw [e]; rfl, by rw [e]⟩ (by repeat' (first | exact Cover.nil | exact Take.here | apply Cover.cons | apply Take.there))

theorem dbits_ok (v : Int) (hv : I64 v) (n : Nat) (hn : n ≤ 64) : Con Try.prog ρ 33 #[.int .i64 v, .int .i64 n] [] (fun u H => ∃ a c, u = .slice a n c ∧ H = [OwnSl 4 1 a n c ((bitsR n v).map encB)]) := by
  refine con_intro Try.func33 Try.call33 rfl Try.ntmps33 rfl (L := [(0, _), (1, _)]) rfl fun w hh => ?_
  refine g_seq ?_
  refine g_region ?_
  refine g_pure (p_assign rfl) rfl ?_
  refine g_nil ?_
  refine g_qt ?_
  refine g_seq ?_
  refine g_region ?_
  refine g_pure (p_assign rfl) rfl ?_
  refine g_nil ?_
  refine g_qt ?_
  refine g_seq ?_
  refine g_seq ?_
  refine g_region ?_
  refine g_pure (p_assign rfl) rfl ?_
  refine g_nil ?_
  refine g_qt ?_
  refine g_block ?_
  refine g_ownnil (e := 4) (size := 1) ?_
  refine g_loop (fun q : Nat × Option Addr × Nat => [(0, .int .i64 v), (1, .int .i64 n), (5, .slice q.2.1 q.1 q.2.2), (6, .int .i64 q.1)])
    (fun q => [OwnSl 4 1 q.2.1 q.1 q.2.2 ((bitsR q.1 v).map encB)]) (fun q => q.1 ≤ n) (fun q => n - q.1) (0, none, 0) (Nat.zero_le _) (by (repeat (first | exact trivial | refine ⟨by rfl, ?_⟩)); done) (by repeat' (first | exact Cover.nil | exact Take.here | apply Cover.cons | apply Take.there)) ?_
  rintro ⟨k, oa, oc⟩ hk
  dsimp only at hk ⊢
  refine g_seq ?_
  refine g_seq ?_
  refine g_region ?_
  refine g_pure (p_move rfl) rfl ?_
  refine g_pure (p_move rfl) rfl ?_
  refine g_pure (p_lss rfl rfl) rfl ?_
  refine g_nil ?_
  refine g_qt ?_
  refine g_ifd rfl (fun h => ?_) (fun h => ?_)
  · refine g_skip ?_
    refine g_qt ?_
    refine g_seq ?_
    refine g_block ?_
    refine g_region ?_
    refine g_pure (p_move rfl) rfl ?_
    refine g_pure (p_move rfl) rfl ?_
    refine g_pure (p_move rfl) rfl ?_
    refine g_pure (p_shr rfl rfl (by omega)) rfl ?_
    refine g_pure (p_and rfl rfl) rfl ?_
    refine g_pure (p_eql rfl rfl) rfl ?_
    refine g_eff (e_bs (xs := [.tmp 17]) rfl rfl rfl (by rfl) (by rfl) rfl (by rfl)) rfl (fun _ _ => ?_)
    rintro ⟨b18, rfl, rfl⟩
    refine g_eff (e_appendO (by rfl) (by rfl) rfl rfl (by first | (apply Has.own; (repeat' (first | exact Take.here | apply Take.there)); done) | exact Has.ro (by assumption)) (by rfl) (by rfl) (by repeat' (first | exact Take.here | apply Take.there)) (by omega) (by first | omega | (dsimp only; omega) | (simp <;> omega)) (by omega)) rfl (fun _ _ => ?_)
    rintro ⟨a19, c19, rfl, rfl⟩
    refine g_pure (p_assign rfl) rfl ?_
    refine g_nil ?_
    refine g_qb ?_
    refine g_qt ?_
    refine g_region ?_
    refine g_pure (p_move rfl) rfl ?_
    first | refine g_pure (p_addi rfl rfl (by omega)) rfl ?_ | refine g_pure (p_add rfl rfl) rfl ?_
    refine g_pure (p_assign rfl) rfl ?_
    refine g_nil ?_
    refine g_qn ?_
    rw [shr_i64 v (by omega), and1_i64 _ (div_i64 hv k)]
    have e : (bitsR k v).map encB ++ [Value.bool (decide (v / ((2 ^ k : Nat) : Int) % 2 = 1))] = (bitsR (k + 1) v).map encB := by
      rw [bitsR_snoc, List.map_append]; rfl
    rw [e]
    exact g_next (k + 1, a19, c19) (by (repeat (first | exact trivial | refine ⟨by rfl, ?_⟩)); done) (by repeat' (first | exact Cover.nil | exact Take.here | apply Cover.cons | apply Take.there)) (by dsimp only; omega) (by dsimp only; omega)
  · have hke : k = n := by omega
    subst hke
    refine g_exit ?_
    refine g_qt_exit ?_
    refine g_qn_exit ?_
    refine g_qb_exit ?_
    refine g_qt ?_
    refine g_seq ?_
    refine g_region ?_
    refine g_pure (p_move rfl) rfl ?_
    refine g_pure (p_assign rfl) rfl ?_
    refine g_nil ?_
    refine g_qt ?_
    refine g_ret ?_
    exact g_post (rs := [.tmp 4]) rfl (.tmp rfl .nil) ⟨oa, oc, rfl, rfl⟩ (by repeat' (first | exact Cover.nil | exact Take.here | apply Cover.cons | apply Take.there))

theorem dconst_ok (h : EnR ρ ea es) (hl : es.length ≤ maxLen) (t v : Int) (ht : I64 t) (hv : I64 v) : Con Try.prog ρ 22 #[.slice ea es.length ec, .int .i64 t, .int .i64 v] []
    (fun u H => ∃ a c, u = .tuple #[.slice a (constF es t v).1.length c, .int .i64 (constF es t v).2] ∧ H = [OwnSl 4 1 a (constF es t v).1.length c ((constF es t v).1.map encB)]) := by
  refine con_intro Try.func22 Try.call22 rfl Try.ntmps22 rfl (L := [(0, _), (1, _), (2, _)]) rfl fun w hh => ?_
  refine g_seq ?_
  refine g_region ?_
  refine g_pure (p_assign rfl) rfl ?_
  refine g_pure (p_assign rfl) rfl ?_
  refine g_nil ?_
  refine g_qt ?_
  refine g_seq ?_
  refine g_region ?_
  refine g_pure (p_move rfl) rfl ?_
  refine g_pure (p_move rfl) rfl ?_
  refine g_call (Hin := []) (Hr := ?hr7) (R := ?rr7) rfl rfl rfl ?hin7 ?hc7 ?hk7
  case hin7 => repeat' (first | exact Cover.nil | exact Take.here | apply Cover.cons | apply Take.there)
  case hc7 => intro ρ' hρ hR; exact dwidth_ok (h.mono hρ) hl t ht
  rintro _ _ ⟨rfl, rfl⟩
  refine g_pure (p_assign rfl) rfl ?_
  refine g_nil ?_
  refine g_qt ?_
  refine g_seq ?_
  refine g_seq ?_
  refine g_region ?_
  refine g_pure (p_move rfl) rfl ?_
  refine g_pure (p_eql rfl rfl) rfl ?_
  refine g_nil ?_
  refine g_qt ?_
  refine g_ifd rfl (fun a1 => ?_) (fun a1 => ?_)
  · refine g_seq ?_
    refine g_region ?_
    refine g_pure (p_assign rfl) rfl ?_
    refine g_pure (p_assign rfl) rfl ?_
    refine g_nil ?_
    refine g_qt ?_
    refine g_ret ?_
    refine g_qt_ret ?_
    refine g_ownnil (e := 4) (size := 1) ?_
    have e : constF es t v = ([], 10) := by unfold constF; rw [if_pos (by omega)]
    exact g_post (rs := [.tmp 6, .tmp 7]) rfl (.tmp rfl (.tmp rfl .nil)) ⟨none, 0, by rw [e]; rfl, by rw [e]⟩ (by repeat' (first | exact Cover.nil | exact Take.here | apply Cover.cons | apply Take.there))
  · refine g_skip ?_
    refine g_qt ?_
    refine g_seq ?_
    refine g_seq ?_
    refine g_region ?_
    refine g_pure (p_move rfl) rfl ?_
    refine g_pure (p_move rfl) rfl ?_
    refine g_pure (p_move rfl) rfl ?_
    refine g_call (Hin := []) (Hr := ?hr8) (R := ?rr8) rfl rfl rfl ?hin8 ?hc8 ?hk8
    case hin8 => repeat' (first | exact Cover.nil | exact Take.here | apply Cover.cons | apply Take.there)
    case hc8 => intro ρ' hρ hR; exact shas_ok (h.mono hρ) hl t v ht
    rintro _ _ ⟨rfl, rfl⟩
    refine g_pure (p_not rfl) rfl ?_
    refine g_nil ?_
    refine g_qt ?_
    by_cases hh : tyHas es t v
    · rw [decide_eq_true hh]
      refine g_iff rfl ?_
      refine g_skip ?_
      refine g_qt ?_
      refine g_seq ?_
      refine g_region ?_
      refine g_pure (p_move rfl) rfl ?_
      refine g_pure (p_move rfl) rfl ?_
      have e : constF es t v = (bitsR (widthN es t) v, 0) := by unfold constF; rw [if_neg (by omega), if_pos hh]
      have hwl := widthN_le es t
      refine g_call (Hin := []) (Hr := ?hr9) (R := ?rr9) rfl rfl rfl ?hin9 ?hc9 ?hk9
      case hin9 => repeat' (first | exact Cover.nil | exact Take.here | apply Cover.cons | apply Take.there)
      case hc9 => intro ρ' hρ hR; exact dbits_ok v hv (widthN es t) (by omega)
      rintro _ _ ⟨a, c, rfl, rfl⟩
      refine g_pure (p_assign rfl) rfl ?_
      refine g_pure (p_assign rfl) rfl ?_
      refine g_nil ?_
      refine g_qt ?_
      refine g_ret ?_
      exact g_post (Ho := [OwnSl 4 1 a (widthN es t) c ((bitsR (widthN es t) v).map encB)]) (rs := [.tmp 6, .tmp 7]) rfl (.tmp rfl (.tmp rfl .nil)) ⟨a, c, by rw [e, bitsR_len]; rfl, by rw [e, bitsR_len]⟩ (by repeat' (first | exact Cover.nil | exact Take.here | apply Cover.cons | apply Take.there))
    · rw [decide_eq_false hh]
      refine g_ift rfl ?_
      refine g_seq ?_
      refine g_region ?_
      refine g_pure (p_assign rfl) rfl ?_
      refine g_pure (p_assign rfl) rfl ?_
      refine g_nil ?_
      refine g_qt ?_
      refine g_ret ?_
      refine g_qt_ret ?_
      refine g_ownnil (e := 4) (size := 1) ?_
      have e : constF es t v = ([], 14) := by unfold constF; rw [if_neg (by omega), if_neg hh]
      exact g_post (rs := [.tmp 6, .tmp 7]) rfl (.tmp rfl (.tmp rfl .nil)) ⟨none, 0, by rw [e]; rfl, by rw [e]⟩ (by repeat' (first | exact Cover.nil | exact Take.here | apply Cover.cons | apply Take.there))
end Go.Proofs.Ytkebblmmgcgjkaa
/- Chapter 38: values of bits; the document's operators. Conditions: none. -/
namespace Go.Z.Bit
set_option maxRecDepth 8000
set_option linter.unusedVariables false
set_option linter.unusedSimpArgs false
set_option linter.unusedSectionVars false
open Go Go.Z Go.Z.Val Go.Z.Aig
theorem sg_of {es : List En} {t : Int} {bs : List Bool} (h : bs.length = widthN es t) : sg bs = if t = 2 ∧ 32767 < (num bs : Int) then (num bs : Int) - 65536 else num bs := by
  unfold sg
  rw [h]
  by_cases h2 : t = 2
  · rw [widthN_16.2 h2]
    by_cases h3 : 32768 ≤ num bs
    · rw [if_pos ⟨rfl, h3⟩, if_pos ⟨h2, by omega⟩]
    · rw [if_neg (fun h => h3 h.2), if_neg (fun h => by have := h.2; omega)]
  · rw [if_neg (fun h => h2 (widthN_16.1 h.1)), if_neg (fun h => h2 h.1)]
theorem pow40 {k : Nat} (h : k ≤ 40) : 2 ^ k ≤ 1099511627776 := by
  have h2 : (2 : Nat) ^ k ≤ 2 ^ 40 := Nat.pow_le_pow_right (by decide) h
  have h3 : (2 : Nat) ^ 40 = 1099511627776 := by decide
  rwa [h3] at h2
end Go.Z.Bit
namespace Go.Proofs.Ytkebblmmgcgjkaa
set_option maxRecDepth 8000
set_option linter.unusedVariables false
set_option linter.unusedSimpArgs false
set_option linter.unusedSectionVars false
open Go Go.Z Go.Z.Val Go.Z.Aig Go.Z.Bit

variable {ρ : Nat → Obj → Prop} {ea : Option Addr} {ec : Nat} {es : List En} {ba : Option Addr} {bc : Nat} {bs : List Bool}
theorem brd {ρ : Nat → Obj → Prop} {al : Option Addr} {bs : List Bool} (h : RSl ρ 1 al bs.length (bs.map encB)) : ∃ b off cs T fz, 0 < bs.length → al = some ⟨b, off, none⟩ ∧ ρ b (.cells (cs : List Value).toArray T fz) ∧ ∀ i (hi : i < bs.length), cs[off + i * 1]? = some (.bool bs[i]) := by
  obtain ⟨h1, b, off, cs, T, fz, h2⟩ := h
  refine ⟨b, off, cs, T, fz, fun h0 => ⟨(h2 h0).1, (h2 h0).2.1, fun i hi => (h2 h0).2.2 _ _ ?_⟩⟩
  rw [Nat.mul_one, List.getElem?_map, List.getElem?_eq_getElem hi]; rfl
theorem bvalue_ok (h : EnR ρ ea es) (hl : es.length ≤ maxLen) (t : Int) (ht : I64 t) (hb : RSl ρ 1 ba bs.length (bs.map encB)) (hn : bs.length ≤ 9223372036854775807) : Con Try.prog ρ 25 #[.slice ea es.length ec, .int .i64 t, .slice ba bs.length bc] []
    (fun u H => u = .tuple #[.int .i64 (valueF es t bs).1, .int .i64 (valueF es t bs).2] ∧ H = []) := by
  obtain ⟨b1, o1, cs1, T1, fz1, hr⟩ := brd hb
  have hwl := widthN_le es t
  refine con_intro Try.func25 Try.call25 rfl Try.ntmps25 rfl (L := [(0, _), (1, _), (2, _)]) rfl fun w hh => ?_
  refine g_seq ?_
  refine g_region ?_
  refine g_pure (p_assign rfl) rfl ?_
  refine g_pure (p_assign rfl) rfl ?_
  refine g_nil ?_
  refine g_qt ?_
  refine g_seq ?_
  refine g_region ?_
  refine g_pure (p_move rfl) rfl ?_
  refine g_pure (p_move rfl) rfl ?_
  refine g_call (Hin := []) (Hr := ?hr1) (R := ?rr1) rfl rfl rfl ?hin1 ?hc1 ?hk1
  case hin1 => repeat' (first | exact Cover.nil | exact Take.here | apply Cover.cons | apply Take.there)
  case hc1 => intro ρ' hρ hR; exact width_ok (h.mono hρ) hl t ht
  rintro _ _ ⟨rfl, rfl⟩
  refine g_pure (p_assign rfl) rfl ?_
  refine g_nil ?_
  refine g_qt ?_
  refine g_seq ?_
  refine g_seq ?_
  refine g_region ?_
  refine g_pure (p_move rfl) rfl ?_
  refine g_pure (p_eql rfl rfl) rfl ?_
  refine g_nil ?_
  refine g_qt ?_
  refine g_ifd rfl (fun a1 => ?_) (fun a1 => ?_)
  · refine g_seq ?_
    refine g_region ?_
    refine g_pure (p_assign rfl) rfl ?_
    refine g_pure (p_assign rfl) rfl ?_
    refine g_nil ?_
    refine g_qt ?_
    refine g_ret ?_
    refine g_qt_ret ?_
    exact g_post (Ho := []) (rs := [.tmp 6, .tmp 7]) rfl (.tmp rfl (.tmp rfl .nil)) ⟨by unfold valueF; rw [if_pos (by omega)]; rfl, rfl⟩ (by repeat' (first | exact Cover.nil | exact Take.here | apply Cover.cons | apply Take.there))
  · refine g_skip ?_
    refine g_qt ?_
    refine g_seq ?_
    refine g_seq ?_
    refine g_region ?_
    refine g_pure (p_move rfl) rfl ?_
    refine g_pure (p_len (by rfl) rfl) rfl ?_
    refine g_pure (p_move rfl) rfl ?_
    refine g_pure (p_neq rfl rfl) rfl ?_
    refine g_nil ?_
    refine g_qt ?_
    refine g_ifnd rfl (fun a2 => ?_) (fun a2 => ?_)
    · refine g_seq ?_
      refine g_region ?_
      refine g_pure (p_assign rfl) rfl ?_
      refine g_pure (p_assign rfl) rfl ?_
      refine g_nil ?_
      refine g_qt ?_
      refine g_ret ?_
      refine g_qt_ret ?_
      exact g_post (Ho := []) (rs := [.tmp 6, .tmp 7]) rfl (.tmp rfl (.tmp rfl .nil)) ⟨by unfold valueF; rw [if_neg (by omega), if_pos (by omega)]; rfl, rfl⟩ (by repeat' (first | exact Cover.nil | exact Take.here | apply Cover.cons | apply Take.there))
    · have hlen : bs.length = widthN es t := by omega
      refine g_skip ?_
      refine g_qt ?_
      refine g_seq ?_
      refine g_region ?_
      refine g_pure (p_assign rfl) rfl ?_
      refine g_nil ?_
      refine g_qt ?_
      refine g_seq ?_
      refine g_seq ?_
      refine g_region ?_
      refine g_pure (p_move rfl) rfl ?_
      refine g_pure (p_len (by rfl) rfl) rfl ?_
      refine g_pure (p_move rfl) rfl ?_
      refine g_nil ?_
      refine g_qt ?_
      refine g_block ?_
      refine g_loop (fun k : Nat => [(0, .slice ea es.length ec), (1, .int .i64 t), (9, .int .i64 (num (bs.take k) : Nat)), (21, .slice ba bs.length bc), (22, .int .i64 bs.length), (23, .int .i64 k)]) (fun _ => []) (fun k => k ≤ bs.length) (fun k => bs.length - k) 0 (Nat.zero_le _) (by (repeat (first | exact trivial | refine ⟨by rfl, ?_⟩)); done) .nil ?_
      rintro k hk
      refine g_seq ?_
      refine g_region ?_
      refine g_pure (p_lss rfl rfl) rfl ?_
      refine g_nil ?_
      refine g_qt ?_
      refine g_seq ?_
      refine g_ifd rfl (fun q => ?_) (fun q => ?_)
      · have hkl : k < bs.length := by omega
        obtain ⟨r1, r2, r3⟩ := hr (by omega)
        have hsm : num (bs.take k) < 1099511627776 := num_small (by rw [List.length_take]; omega)
        have hp := pow40 (show k ≤ 40 by omega)
        have hnt := num_take_succ hkl
        rw [List.getD_eq_getElem?_getD, List.getElem?_eq_getElem hkl, Option.getD_some] at hnt
        refine g_skip ?_
        refine g_qt ?_
        refine g_seq ?_
        refine g_block ?_
        refine g_seq ?_
        refine g_region ?_
        refine g_pure (p_move rfl) rfl ?_
        refine g_pure (p_indexAddr rfl rfl (by omega) (fun _ => r1)) rfl ?_
        refine g_pure (p_load (by rfl) rfl (Has.ro r2) (r3 k hkl)) rfl ?_
        refine g_pure (p_assign rfl) rfl ?_
        refine g_pure (p_assign rfl) rfl ?_
        refine g_nil ?_
        refine g_qt ?_
        refine g_seq ?_
        refine g_region ?_
        refine g_pure (p_move rfl) rfl ?_
        refine g_nil ?_
        refine g_qt ?_
        refine g_if rfl (fun q2 => ?_) (fun q2 => ?_)
        · rw [q2] at hnt
          refine g_region ?_
          refine g_pure (p_move rfl) rfl ?_
          refine g_pure (p_move rfl) rfl ?_
          refine g_pure (p_shl rfl rfl (by omega)) rfl ?_
          rw [shl1 (by omega)]
          generalize 2 ^ k = P at hp hnt ⊢
          first | refine g_pure (p_addi rfl rfl (by omega)) rfl ?_ | refine g_pure (p_add rfl rfl) rfl ?_
          refine g_pure (p_assign rfl) rfl ?_
          refine g_nil ?_
          refine g_qb ?_
          refine g_qt ?_
          refine g_region ?_
          first | refine g_pure (p_addi rfl rfl (by omega)) rfl ?_ | refine g_pure (p_add rfl rfl) rfl ?_
          refine g_pure (p_move rfl) rfl ?_
          refine g_nil ?_
          refine g_qn ?_
          have e : ((num (bs.take k) : Nat) : Int) + (P : Int) = ((num (bs.take (k + 1)) : Nat) : Int) := by rw [hnt]; simp
          rw [e]
          exact g_next (k + 1) (by (repeat (first | exact trivial | refine ⟨by rfl, ?_⟩)); done) .nil (by omega) (by omega)
        · rw [q2] at hnt
          refine g_skip ?_
          refine g_qb ?_
          refine g_qt ?_
          refine g_region ?_
          first | refine g_pure (p_addi rfl rfl (by omega)) rfl ?_ | refine g_pure (p_add rfl rfl) rfl ?_
          refine g_pure (p_move rfl) rfl ?_
          refine g_nil ?_
          refine g_qn ?_
          have e : num (bs.take k) = num (bs.take (k + 1)) := by rw [hnt]; simp
          rw [e]
          exact g_next (k + 1) (by (repeat (first | exact trivial | refine ⟨by rfl, ?_⟩)); done) .nil (by omega) (by omega)
      · have hke : k = bs.length := by omega
        subst hke
        rw [List.take_of_length_le (Nat.le_refl _)]
        have hsm : num bs < 1099511627776 := num_small (by omega)
        have hsg := sg_of hlen
        refine g_exit ?_
        refine g_qt_exit ?_
        refine g_qn_exit ?_
        refine g_qb_exit ?_
        refine g_qt ?_
        refine g_seq ?_
        refine g_seq ?_
        refine g_region ?_
        refine g_pure (p_move rfl) rfl ?_
        refine g_pure (p_eql rfl rfl) rfl ?_
        refine g_pure (p_move rfl) rfl ?_
        refine g_splitd rfl rfl (fun g1 => ?_) (fun g1 => ?_)
        · refine g_yes rfl rfl ?_
          refine g_pure (p_move rfl) rfl ?_
          refine g_yes rfl rfl ?_
          refine g_pure (p_gtr rfl rfl) rfl ?_
          first | refine g_pure (p_pickt rfl rfl) rfl ?_ | refine g_pure (p_pickf rfl rfl) rfl ?_
          refine g_nil ?_
          refine g_qt ?_
          refine g_ifd rfl (fun g2 => ?_) (fun g2 => ?_)
          · rw [if_pos ⟨g1, g2⟩] at hsg
            refine g_region ?_
            refine g_pure (p_move rfl) rfl ?_
            first | refine g_pure (p_subi rfl rfl (by omega)) rfl ?_ | refine g_pure (p_sub rfl rfl) rfl ?_
            refine g_pure (p_assign rfl) rfl ?_
            refine g_nil ?_
            refine g_qt ?_
            refine g_seq ?_
            refine g_seq ?_
            refine g_region ?_
            refine g_pure (p_move rfl) rfl ?_
            refine g_pure (p_move rfl) rfl ?_
            refine g_pure (p_move rfl) rfl ?_
            rw [← hsg]
            refine g_call (Hin := []) (Hr := ?hr2) (R := ?rr2) rfl rfl rfl ?hin2 ?hc2 ?hk2
            case hin2 => repeat' (first | exact Cover.nil | exact Take.here | apply Cover.cons | apply Take.there)
            case hc2 => intro ρ' hρ hR; exact vhas_ok (h.mono hρ) hl t (sg bs) ht
            rintro _ _ ⟨rfl, rfl⟩
            refine g_pure (p_not rfl) rfl ?_
            refine g_nil ?_
            refine g_qt ?_
            · by_cases hh : tyHas es t (sg bs)
              · rw [decide_eq_true hh]
                refine g_iff rfl ?_
                refine g_skip ?_
                refine g_qt ?_
                refine g_seq ?_
                refine g_region ?_
                refine g_pure (p_move rfl) rfl ?_
                refine g_pure (p_assign rfl) rfl ?_
                refine g_pure (p_assign rfl) rfl ?_
                refine g_nil ?_
                refine g_qt ?_
                refine g_ret ?_
                exact g_post (Ho := []) (rs := [.tmp 6, .tmp 7]) rfl (.tmp rfl (.tmp rfl .nil)) ⟨by unfold valueF; rw [if_neg (by omega), if_neg (by omega), if_pos hh]; rfl, rfl⟩ (by repeat' (first | exact Cover.nil | exact Take.here | apply Cover.cons | apply Take.there))
              · rw [decide_eq_false hh]
                refine g_ift rfl ?_
                refine g_seq ?_
                refine g_region ?_
                refine g_pure (p_assign rfl) rfl ?_
                refine g_pure (p_assign rfl) rfl ?_
                refine g_nil ?_
                refine g_qt ?_
                refine g_ret ?_
                refine g_qt_ret ?_
                exact g_post (Ho := []) (rs := [.tmp 6, .tmp 7]) rfl (.tmp rfl (.tmp rfl .nil)) ⟨by unfold valueF; rw [if_neg (by omega), if_neg (by omega), if_neg hh]; rfl, rfl⟩ (by repeat' (first | exact Cover.nil | exact Take.here | apply Cover.cons | apply Take.there))
          · rw [if_neg (fun h => g2 h.2)] at hsg
            refine g_skip ?_
            refine g_qt ?_
            refine g_seq ?_
            refine g_seq ?_
            refine g_region ?_
            refine g_pure (p_move rfl) rfl ?_
            refine g_pure (p_move rfl) rfl ?_
            refine g_pure (p_move rfl) rfl ?_
            rw [← hsg]
            refine g_call (Hin := []) (Hr := ?hr3) (R := ?rr3) rfl rfl rfl ?hin3 ?hc3 ?hk3
            case hin3 => repeat' (first | exact Cover.nil | exact Take.here | apply Cover.cons | apply Take.there)
            case hc3 => intro ρ' hρ hR; exact vhas_ok (h.mono hρ) hl t (sg bs) ht
            rintro _ _ ⟨rfl, rfl⟩
            refine g_pure (p_not rfl) rfl ?_
            refine g_nil ?_
            refine g_qt ?_
            · by_cases hh : tyHas es t (sg bs)
              · rw [decide_eq_true hh]
                refine g_iff rfl ?_
                refine g_skip ?_
                refine g_qt ?_
                refine g_seq ?_
                refine g_region ?_
                refine g_pure (p_move rfl) rfl ?_
                refine g_pure (p_assign rfl) rfl ?_
                refine g_pure (p_assign rfl) rfl ?_
                refine g_nil ?_
                refine g_qt ?_
                refine g_ret ?_
                exact g_post (Ho := []) (rs := [.tmp 6, .tmp 7]) rfl (.tmp rfl (.tmp rfl .nil)) ⟨by unfold valueF; rw [if_neg (by omega), if_neg (by omega), if_pos hh]; rfl, rfl⟩ (by repeat' (first | exact Cover.nil | exact Take.here | apply Cover.cons | apply Take.there))
              · rw [decide_eq_false hh]
                refine g_ift rfl ?_
                refine g_seq ?_
                refine g_region ?_
                refine g_pure (p_assign rfl) rfl ?_
                refine g_pure (p_assign rfl) rfl ?_
                refine g_nil ?_
                refine g_qt ?_
                refine g_ret ?_
                refine g_qt_ret ?_
                exact g_post (Ho := []) (rs := [.tmp 6, .tmp 7]) rfl (.tmp rfl (.tmp rfl .nil)) ⟨by unfold valueF; rw [if_neg (by omega), if_neg (by omega), if_neg hh]; rfl, rfl⟩ (by repeat' (first | exact Cover.nil | exact Take.here | apply Cover.cons | apply Take.there))
        · rw [if_neg (fun h => g1 h.1)] at hsg
          refine g_no rfl rfl rfl rfl ?_
          refine g_no rfl rfl rfl rfl ?_
          first | refine g_pure (p_pickt rfl rfl) rfl ?_ | refine g_pure (p_pickf rfl rfl) rfl ?_
          refine g_nil ?_
          refine g_qt ?_
          refine g_iff rfl ?_
          refine g_skip ?_
          refine g_qt ?_
          refine g_seq ?_
          refine g_seq ?_
          refine g_region ?_
          refine g_pure (p_move rfl) rfl ?_
          refine g_pure (p_move rfl) rfl ?_
          refine g_pure (p_move rfl) rfl ?_
          rw [← hsg]
          refine g_call (Hin := []) (Hr := ?hr4) (R := ?rr4) rfl rfl rfl ?hin4 ?hc4 ?hk4
          case hin4 => repeat' (first | exact Cover.nil | exact Take.here | apply Cover.cons | apply Take.there)
          case hc4 => intro ρ' hρ hR; exact vhas_ok (h.mono hρ) hl t (sg bs) ht
          rintro _ _ ⟨rfl, rfl⟩
          refine g_pure (p_not rfl) rfl ?_
          refine g_nil ?_
          refine g_qt ?_
          · by_cases hh : tyHas es t (sg bs)
            · rw [decide_eq_true hh]
              refine g_iff rfl ?_
              refine g_skip ?_
              refine g_qt ?_
              refine g_seq ?_
              refine g_region ?_
              refine g_pure (p_move rfl) rfl ?_
              refine g_pure (p_assign rfl) rfl ?_
              refine g_pure (p_assign rfl) rfl ?_
              refine g_nil ?_
              refine g_qt ?_
              refine g_ret ?_
              exact g_post (Ho := []) (rs := [.tmp 6, .tmp 7]) rfl (.tmp rfl (.tmp rfl .nil)) ⟨by unfold valueF; rw [if_neg (by omega), if_neg (by omega), if_pos hh]; rfl, rfl⟩ (by repeat' (first | exact Cover.nil | exact Take.here | apply Cover.cons | apply Take.there))
            · rw [decide_eq_false hh]
              refine g_ift rfl ?_
              refine g_seq ?_
              refine g_region ?_
              refine g_pure (p_assign rfl) rfl ?_
              refine g_pure (p_assign rfl) rfl ?_
              refine g_nil ?_
              refine g_qt ?_
              refine g_ret ?_
              refine g_qt_ret ?_
              exact g_post (Ho := []) (rs := [.tmp 6, .tmp 7]) rfl (.tmp rfl (.tmp rfl .nil)) ⟨by unfold valueF; rw [if_neg (by omega), if_neg (by omega), if_neg hh]; rfl, rfl⟩ (by repeat' (first | exact Cover.nil | exact Take.here | apply Cover.cons | apply Take.there))

theorem unsigned_ok (hb : RSl ρ 1 ba bs.length (bs.map encB)) (hn : bs.length ≤ 40) : Con Try.prog ρ 77 #[.slice ba bs.length bc] [] (fun u H => u = .int .i64 (num bs : Nat) ∧ H = []) := by
  obtain ⟨b1, o1, cs1, T1, fz1, hr⟩ := brd hb
  refine con_intro Try.func77 Try.call77 rfl Try.ntmps77 rfl (L := [(0, _)]) rfl fun w hh => ?_
  refine g_seq ?_
  refine g_region ?_
  refine g_pure (p_assign rfl) rfl ?_
  refine g_nil ?_
  refine g_qt ?_
  refine g_seq ?_
  refine g_region ?_
  refine g_pure (p_assign rfl) rfl ?_
  refine g_nil ?_
  refine g_qt ?_
  refine g_seq ?_
  refine g_seq ?_
  refine g_region ?_
  refine g_pure (p_move rfl) rfl ?_
  refine g_pure (p_len (by rfl) rfl) rfl ?_
  first | refine g_pure (p_subi rfl rfl (by omega)) rfl ?_ | refine g_pure (p_sub rfl rfl) rfl ?_
  refine g_pure (p_assign rfl) rfl ?_
  refine g_nil ?_
  refine g_qt ?_
  refine g_block ?_
  refine g_loop (fun k : Nat => [(0, .slice ba bs.length bc), (3, .int .i64 (num (bs.drop k) : Nat)), (4, .int .i64 ((k : Int) - 1))]) (fun _ => []) (fun k => k ≤ bs.length) (fun k => k) bs.length (Nat.le_refl _) (by rw [List.drop_of_length_le (Nat.le_refl _)]; exact (by (repeat (first | exact trivial | refine ⟨by rfl, ?_⟩)); done)) .nil ?_
  rintro k hk
  refine g_seq ?_
  refine g_seq ?_
  refine g_region ?_
  refine g_pure (p_move rfl) rfl ?_
  refine g_pure (p_geq rfl rfl) rfl ?_
  refine g_nil ?_
  refine g_qt ?_
  refine g_ifd rfl (fun q => ?_) (fun q => ?_)
  · obtain ⟨j, rfl⟩ : ∃ j, k = j + 1 := ⟨k - 1, by omega⟩
    have hkl : j < bs.length := by omega
    obtain ⟨r1, r2, r3⟩ := hr (by omega)
    have hki : (((j + 1 : Nat) : Int) - 1).toNat = j := by omega
    have hx : cs1[o1 + (((j + 1 : Nat) : Int) - 1).toNat * 1]? = some (.bool bs[j]) := by rw [hki]; exact r3 _ _
    have hsm : num (bs.drop (j + 1)) < 1099511627776 := num_small (by rw [List.length_drop]; omega)
    have hnd := num_drop hkl
    rw [List.getD_eq_getElem?_getD, List.getElem?_eq_getElem hkl, Option.getD_some] at hnd
    refine g_skip ?_
    refine g_qt ?_
    refine g_seq ?_
    refine g_block ?_
    refine g_seq ?_
    refine g_region ?_
    refine g_pure (p_move rfl) rfl ?_
    first | refine g_pure (p_muli rfl rfl (by omega)) rfl ?_ | refine g_pure (p_mul rfl rfl) rfl ?_
    refine g_pure (p_assign rfl) rfl ?_
    refine g_nil ?_
    refine g_qt ?_
    refine g_seq ?_
    refine g_region ?_
    refine g_pure (p_move rfl) rfl ?_
    refine g_pure (p_move rfl) rfl ?_
    refine g_pure (p_indexAddr rfl rfl (by omega) (fun _ => r1)) rfl ?_
    refine g_pure (p_load (by rfl) rfl (Has.ro r2) hx) rfl ?_
    refine g_nil ?_
    refine g_qt ?_
    have eI : ((j + 1 : Nat) : Int) - 1 - 1 = ((j : Nat) : Int) - 1 := by omega
    refine g_if rfl (fun q2 => ?_) (fun q2 => ?_)
    · rw [q2] at hnd
      refine g_region ?_
      refine g_pure (p_move rfl) rfl ?_
      first | refine g_pure (p_addi rfl rfl (by omega)) rfl ?_ | refine g_pure (p_add rfl rfl) rfl ?_
      refine g_pure (p_assign rfl) rfl ?_
      refine g_nil ?_
      refine g_qb ?_
      refine g_qt ?_
      refine g_region ?_
      refine g_pure (p_move rfl) rfl ?_
      first | refine g_pure (p_subi rfl rfl (by omega)) rfl ?_ | refine g_pure (p_sub rfl rfl) rfl ?_
      refine g_pure (p_assign rfl) rfl ?_
      refine g_nil ?_
      refine g_qn ?_
      rw [eI]
      have e : 2 * ((num (bs.drop (j + 1)) : Nat) : Int) + 1 = ((num (bs.drop j) : Nat) : Int) := by rw [hnd]; simp; omega
      rw [e]
      exact g_next j (by (repeat (first | exact trivial | refine ⟨by rfl, ?_⟩)); done) .nil (by omega) (by omega)
    · rw [q2] at hnd
      refine g_skip ?_
      refine g_qb ?_
      refine g_qt ?_
      refine g_region ?_
      refine g_pure (p_move rfl) rfl ?_
      first | refine g_pure (p_subi rfl rfl (by omega)) rfl ?_ | refine g_pure (p_sub rfl rfl) rfl ?_
      refine g_pure (p_assign rfl) rfl ?_
      refine g_nil ?_
      refine g_qn ?_
      rw [eI]
      have e : 2 * ((num (bs.drop (j + 1)) : Nat) : Int) = ((num (bs.drop j) : Nat) : Int) := by rw [hnd]; simp
      rw [e]
      exact g_next j (by (repeat (first | exact trivial | refine ⟨by rfl, ?_⟩)); done) .nil (by omega) (by omega)
  · have hk0 : k = 0 := by omega
    subst hk0
    refine g_exit ?_
    refine g_qt_exit ?_
    refine g_qn_exit ?_
    refine g_qb_exit ?_
    refine g_qt ?_
    refine g_seq ?_
    refine g_region ?_
    refine g_pure (p_move rfl) rfl ?_
    refine g_pure (p_assign rfl) rfl ?_
    refine g_nil ?_
    refine g_qt ?_
    refine g_ret ?_
    exact g_post (Ho := []) (rs := [.tmp 2]) rfl (.tmp rfl .nil) ⟨by rw [List.drop_zero]; rfl, rfl⟩ (by repeat' (first | exact Cover.nil | exact Take.here | apply Cover.cons | apply Take.there))
theorem number_ok (hb : RSl ρ 1 ba bs.length (bs.map encB)) (hn : bs.length ≤ 40) : Con Try.prog ρ 38 #[.slice ba bs.length bc] [] (fun u H => u = .int .i64 (sg bs) ∧ H = []) := by
  have hsm : num bs < 1099511627776 := num_small hn
  refine con_intro Try.func38 Try.call38 rfl Try.ntmps38 rfl (L := [(0, _)]) rfl fun w hh => ?_
  refine g_seq ?_
  refine g_region ?_
  refine g_pure (p_assign rfl) rfl ?_
  refine g_nil ?_
  refine g_qt ?_
  refine g_seq ?_
  refine g_region ?_
  refine g_pure (p_move rfl) rfl ?_
  refine g_call (Hin := []) (Hr := ?hr5) (R := ?rr5) rfl rfl rfl ?hin5 ?hc5 ?hk5
  case hin5 => repeat' (first | exact Cover.nil | exact Take.here | apply Cover.cons | apply Take.there)
  case hc5 => intro ρ' hρ hR; exact unsigned_ok (hb.mono hρ) hn
  rintro _ _ ⟨rfl, rfl⟩
  refine g_pure (p_assign rfl) rfl ?_
  refine g_nil ?_
  refine g_qt ?_
  refine g_seq ?_
  refine g_seq ?_
  refine g_region ?_
  refine g_pure (p_move rfl) rfl ?_
  refine g_pure (p_len (by rfl) rfl) rfl ?_
  refine g_pure (p_eql rfl rfl) rfl ?_
  refine g_pure (p_move rfl) rfl ?_
  refine g_splitd rfl rfl (fun g1 => ?_) (fun g1 => ?_)
  · refine g_yes rfl rfl ?_
    refine g_pure (p_move rfl) rfl ?_
    refine g_yes rfl rfl ?_
    refine g_pure (p_geq rfl rfl) rfl ?_
    first | refine g_pure (p_pickt rfl rfl) rfl ?_ | refine g_pure (p_pickf rfl rfl) rfl ?_
    refine g_nil ?_
    refine g_qt ?_
    refine g_ifd rfl (fun g2 => ?_) (fun g2 => ?_)
    · refine g_seq ?_
      refine g_region ?_
      refine g_pure (p_move rfl) rfl ?_
      first | refine g_pure (p_subi rfl rfl (by omega)) rfl ?_ | refine g_pure (p_sub rfl rfl) rfl ?_
      refine g_pure (p_assign rfl) rfl ?_
      refine g_nil ?_
      refine g_qt ?_
      refine g_ret ?_
      refine g_qt_ret ?_
      exact g_post (Ho := []) (rs := [.tmp 2]) rfl (.tmp rfl .nil) ⟨by unfold sg; rw [if_pos ⟨by omega, by omega⟩]; rfl, rfl⟩ (by repeat' (first | exact Cover.nil | exact Take.here | apply Cover.cons | apply Take.there))
    · refine g_skip ?_
      refine g_qt ?_
      refine g_seq ?_
      refine g_region ?_
      refine g_pure (p_move rfl) rfl ?_
      refine g_pure (p_assign rfl) rfl ?_
      refine g_nil ?_
      refine g_qt ?_
      refine g_ret ?_
      exact g_post (Ho := []) (rs := [.tmp 2]) rfl (.tmp rfl .nil) ⟨by unfold sg; rw [if_neg (fun h => by have := h.2; omega)]; rfl, rfl⟩ (by repeat' (first | exact Cover.nil | exact Take.here | apply Cover.cons | apply Take.there))
  · refine g_no rfl rfl rfl rfl ?_
    refine g_no rfl rfl rfl rfl ?_
    first | refine g_pure (p_pickt rfl rfl) rfl ?_ | refine g_pure (p_pickf rfl rfl) rfl ?_
    refine g_nil ?_
    refine g_qt ?_
    refine g_iff rfl ?_
    refine g_skip ?_
    refine g_qt ?_
    refine g_seq ?_
    refine g_region ?_
    refine g_pure (p_move rfl) rfl ?_
    refine g_pure (p_assign rfl) rfl ?_
    refine g_nil ?_
    refine g_qt ?_
    refine g_ret ?_
    exact g_post (Ho := []) (rs := [.tmp 2]) rfl (.tmp rfl .nil) ⟨by unfold sg; rw [if_neg (fun h => by have := h.1; omega)]; rfl, rfl⟩ (by repeat' (first | exact Cover.nil | exact Take.here | apply Cover.cons | apply Take.there))
theorem dvalue_ok (h : EnR ρ ea es) (hl : es.length ≤ maxLen) (t : Int) (ht : I64 t) (hb : RSl ρ 1 ba bs.length (bs.map encB)) (hn : bs.length ≤ 9223372036854775807) : Con Try.prog ρ 26 #[.slice ea es.length ec, .int .i64 t, .slice ba bs.length bc] []
    (fun u H => u = .tuple #[.int .i64 (valueF es t bs).1, .int .i64 (valueF es t bs).2] ∧ H = []) := by
  have hwl := widthN_le es t
  refine con_intro Try.func26 Try.call26 rfl Try.ntmps26 rfl (L := [(0, _), (1, _), (2, _)]) rfl fun w hh => ?_
  refine g_seq ?_
  refine g_region ?_
  refine g_pure (p_assign rfl) rfl ?_
  refine g_pure (p_assign rfl) rfl ?_
  refine g_nil ?_
  refine g_qt ?_
  refine g_seq ?_
  refine g_region ?_
  refine g_pure (p_move rfl) rfl ?_
  refine g_pure (p_move rfl) rfl ?_
  refine g_call (Hin := []) (Hr := ?hr6) (R := ?rr6) rfl rfl rfl ?hin6 ?hc6 ?hk6
  case hin6 => repeat' (first | exact Cover.nil | exact Take.here | apply Cover.cons | apply Take.there)
  case hc6 => intro ρ' hρ hR; exact dwidth_ok (h.mono hρ) hl t ht
  rintro _ _ ⟨rfl, rfl⟩
  refine g_pure (p_assign rfl) rfl ?_
  refine g_nil ?_
  refine g_qt ?_
  refine g_seq ?_
  refine g_seq ?_
  refine g_region ?_
  refine g_pure (p_move rfl) rfl ?_
  refine g_pure (p_eql rfl rfl) rfl ?_
  refine g_nil ?_
  refine g_qt ?_
  refine g_ifd rfl (fun a1 => ?_) (fun a1 => ?_)
  · refine g_seq ?_
    refine g_region ?_
    refine g_pure (p_assign rfl) rfl ?_
    refine g_pure (p_assign rfl) rfl ?_
    refine g_nil ?_
    refine g_qt ?_
    refine g_ret ?_
    refine g_qt_ret ?_
    exact g_post (Ho := []) (rs := [.tmp 6, .tmp 7]) rfl (.tmp rfl (.tmp rfl .nil)) ⟨by unfold valueF; rw [if_pos (by omega)]; rfl, rfl⟩ (by repeat' (first | exact Cover.nil | exact Take.here | apply Cover.cons | apply Take.there))
  · refine g_skip ?_
    refine g_qt ?_
    refine g_seq ?_
    refine g_seq ?_
    refine g_region ?_
    refine g_pure (p_move rfl) rfl ?_
    refine g_pure (p_len (by rfl) rfl) rfl ?_
    refine g_pure (p_move rfl) rfl ?_
    refine g_pure (p_neq rfl rfl) rfl ?_
    refine g_nil ?_
    refine g_qt ?_
    refine g_ifnd rfl (fun a2 => ?_) (fun a2 => ?_)
    · refine g_seq ?_
      refine g_region ?_
      refine g_pure (p_assign rfl) rfl ?_
      refine g_pure (p_assign rfl) rfl ?_
      refine g_nil ?_
      refine g_qt ?_
      refine g_ret ?_
      refine g_qt_ret ?_
      exact g_post (Ho := []) (rs := [.tmp 6, .tmp 7]) rfl (.tmp rfl (.tmp rfl .nil)) ⟨by unfold valueF; rw [if_neg (by omega), if_pos (by omega)]; rfl, rfl⟩ (by repeat' (first | exact Cover.nil | exact Take.here | apply Cover.cons | apply Take.there))
    · have hlen : bs.length = widthN es t := by omega
      refine g_skip ?_
      refine g_qt ?_
      refine g_seq ?_
      refine g_region ?_
      refine g_pure (p_move rfl) rfl ?_
      refine g_call (Hin := []) (Hr := ?hr7) (R := ?rr7) rfl rfl rfl ?hin7 ?hc7 ?hk7
      case hin7 => repeat' (first | exact Cover.nil | exact Take.here | apply Cover.cons | apply Take.there)
      case hc7 => intro ρ' hρ hR; exact number_ok (hb.mono hρ) (by omega)
      rintro _ _ ⟨rfl, rfl⟩
      refine g_pure (p_assign rfl) rfl ?_
      refine g_nil ?_
      refine g_qt ?_
      refine g_seq ?_
      refine g_seq ?_
      refine g_region ?_
      refine g_pure (p_move rfl) rfl ?_
      refine g_pure (p_move rfl) rfl ?_
      refine g_pure (p_move rfl) rfl ?_
      refine g_call (Hin := []) (Hr := ?hr8) (R := ?rr8) rfl rfl rfl ?hin8 ?hc8 ?hk8
      case hin8 => repeat' (first | exact Cover.nil | exact Take.here | apply Cover.cons | apply Take.there)
      case hc8 => intro ρ' hρ hR; exact shas_ok (h.mono hρ) hl t (sg bs) ht
      rintro _ _ ⟨rfl, rfl⟩
      refine g_pure (p_not rfl) rfl ?_
      refine g_nil ?_
      refine g_qt ?_
      by_cases hh : tyHas es t (sg bs)
      · rw [decide_eq_true hh]
        refine g_iff rfl ?_
        refine g_skip ?_
        refine g_qt ?_
        refine g_seq ?_
        refine g_region ?_
        refine g_pure (p_move rfl) rfl ?_
        refine g_pure (p_assign rfl) rfl ?_
        refine g_pure (p_assign rfl) rfl ?_
        refine g_nil ?_
        refine g_qt ?_
        refine g_ret ?_
        exact g_post (Ho := []) (rs := [.tmp 6, .tmp 7]) rfl (.tmp rfl (.tmp rfl .nil)) ⟨by unfold valueF; rw [if_neg (by omega), if_neg (by omega), if_pos hh]; rfl, rfl⟩ (by repeat' (first | exact Cover.nil | exact Take.here | apply Cover.cons | apply Take.there))
      · rw [decide_eq_false hh]
        refine g_ift rfl ?_
        refine g_seq ?_
        refine g_region ?_
        refine g_pure (p_assign rfl) rfl ?_
        refine g_pure (p_assign rfl) rfl ?_
        refine g_nil ?_
        refine g_qt ?_
        refine g_ret ?_
        refine g_qt_ret ?_
        exact g_post (Ho := []) (rs := [.tmp 6, .tmp 7]) rfl (.tmp rfl (.tmp rfl .nil)) ⟨by unfold valueF; rw [if_neg (by omega), if_neg (by omega), if_neg hh]; rfl, rfl⟩ (by repeat' (first | exact Cover.nil | exact Take.here | apply Cover.cons | apply Take.there))
end Go.Proofs.Ytkebblmmgcgjkaa
/- Chapter 38: the document's operators on bits; helpers of the statements. Conditions: none. -/
namespace Go.Z.Bit
set_option maxRecDepth 8000
set_option linter.unusedVariables false
set_option linter.unusedSimpArgs false
set_option linter.unusedSectionVars false
open Go Go.Z Go.Z.Val Go.Z.Aig
/-- errors of operands, and the number of bits of a result -/
def formF (op : Int) (ws : List Nat) : Int × Int :=
  if op < 1 ∨ 16 < op then (0, 2) else if ws.length ≠ (if op = 1 ∨ op = 2 then 1 else 2) then (0, 9)
  else if op = 11 ∨ op = 12 then (if ws.getD 0 0 ≠ ws.getD 1 0 ∨ ws.getD 0 0 < 1 ∨ 16 < ws.getD 0 0 then (0, 16) else (1, 0))
  else if ws.getD 0 0 ≠ (if op = 1 ∨ op = 3 ∨ op = 4 ∨ op = 5 then 1 else 16) ∨ (¬ (op = 1 ∨ op = 2) ∧ ws.getD 1 0 ≠ (if op = 1 ∨ op = 3 ∨ op = 4 ∨ op = 5 then 1 else 16)) then (0, 16)
  else (if op = 2 ∨ (6 ≤ op ∧ op ≤ 10) then 16 else 1, 0)
def encN (n : Nat) : Value := .int .i64 n
end Go.Z.Bit
namespace Go.Proofs.Ytkebblmmgcgjkaa
set_option maxRecDepth 8000
set_option linter.unusedVariables false
set_option linter.unusedSimpArgs false
set_option linter.unusedSectionVars false
open Go Go.Z Go.Z.Val Go.Z.Aig Go.Z.Bit

variable {ρ : Nat → Obj → Prop}
theorem nrd {ρ : Nat → Obj → Prop} {al : Option Addr} {ws : List Nat} (h : RSl ρ 1 al ws.length (ws.map encN)) : ∃ b off cs T fz, 0 < ws.length → al = some ⟨b, off, none⟩ ∧ ρ b (.cells (cs : List Value).toArray T fz) ∧ ∀ i, i < ws.length → cs[off + i * 1]? = some (.int .i64 (ws.getD i 0 : Nat)) := by
  obtain ⟨h1, b, off, cs, T, fz, h2⟩ := h
  refine ⟨b, off, cs, T, fz, fun h0 => ⟨(h2 h0).1, (h2 h0).2.1, fun i hi => (h2 h0).2.2 _ _ ?_⟩⟩
  rw [Nat.mul_one, List.getElem?_map, List.getD_eq_getElem?_getD, List.getElem?_eq_getElem hi]; rfl

theorem form_ok {wa : Option Addr} {wc : Nat} {ws : List Nat} (op : Int) (hw : RSl ρ 1 wa ws.length (ws.map encN)) (hn : ws.length ≤ 1000000) (hws : ∀ k, ws.getD k 0 ≤ 1000000) : Con Try.prog ρ 36 #[.int .i64 op, .slice wa ws.length wc] []
    (fun v H => v = .tuple #[.int .i64 (formF op ws).1, .int .i64 (formF op ws).2] ∧ H = []) := by
  obtain ⟨b1, o1, cs1, T1, fz1, hr⟩ := nrd hw
  refine con_intro Try.func36 Try.call36 rfl Try.ntmps36 rfl (L := [(0, _), (1, _)]) rfl fun w hh => ?_
  refine g_seq ?_
  refine g_region ?_
  refine g_pure (p_assign rfl) rfl ?_
  refine g_pure (p_assign rfl) rfl ?_
  refine g_nil ?_
  refine g_qt ?_
  refine g_seq ?_
  refine g_join (fun _ : Unit => [(0, .int .i64 op), (1, .slice wa ws.length wc)]) (fun _ => []) (fun _ => ¬ (op < 1 ∨ 16 < op)) ?_ ?_
  · refine g_seq ?_
    refine g_region ?_
    refine g_pure (p_move rfl) rfl ?_
    refine g_pure (p_lss rfl rfl) rfl ?_
    refine g_pure (p_move rfl) rfl ?_
    refine g_splitd rfl rfl (fun h1 => ?_) (fun h1 => ?_)
    · refine g_no rfl rfl rfl rfl ?_
      refine g_no rfl rfl rfl rfl ?_
      first | refine g_pure (p_pickt rfl rfl) rfl ?_ | refine g_pure (p_pickf rfl rfl) rfl ?_
      refine g_nil ?_
      refine g_qt ?_
      refine g_ift rfl ?_
      refine g_seq ?_
      refine g_region ?_
      refine g_pure (p_assign rfl) rfl ?_
      refine g_pure (p_assign rfl) rfl ?_
      refine g_nil ?_
      refine g_qt ?_
      refine g_ret ?_
      refine g_qn_ret ?_
      refine g_qt_ret ?_
      refine g_post (Ho := []) (rs := [.tmp 4, .tmp 5]) rfl (.tmp rfl (.tmp rfl .nil)) ⟨?_, rfl⟩ .nil
      unfold formF
      (repeat' split) <;> first | rfl | (exfalso; omega)
    · refine g_yes rfl rfl ?_
      refine g_pure (p_move rfl) rfl ?_
      refine g_yes rfl rfl ?_
      refine g_pure (p_gtr rfl rfl) rfl ?_
      first | refine g_pure (p_pickt rfl rfl) rfl ?_ | refine g_pure (p_pickf rfl rfl) rfl ?_
      refine g_nil ?_
      refine g_qt ?_
      refine g_ifdL rfl (fun h3 => ?_) (fun h3 => ?_)
      · refine g_seq ?_
        refine g_region ?_
        refine g_pure (p_assign rfl) rfl ?_
        refine g_pure (p_assign rfl) rfl ?_
        refine g_nil ?_
        refine g_qt ?_
        refine g_ret ?_
        refine g_qn_ret ?_
        refine g_qt_ret ?_
        refine g_post (Ho := []) (rs := [.tmp 4, .tmp 5]) rfl (.tmp rfl (.tmp rfl .nil)) ⟨?_, rfl⟩ .nil
        unfold formF
        (repeat' split) <;> first | rfl | (exfalso; omega)
      · refine g_skip ?_
        refine g_qn ?_
        exact g_joined () (by (repeat (first | exact trivial | refine ⟨by rfl, ?_⟩)); done) .nil (by omega)
  rintro _ k1
  refine g_qt ?_
  refine g_seq ?_
  refine g_region ?_
  refine g_pure (p_assign rfl) rfl ?_
  refine g_nil ?_
  refine g_qt ?_
  refine g_seq ?_
  refine g_join (fun y : Nat => [(0, .int .i64 op), (1, .slice wa ws.length wc), (6, .int .i64 y)]) (fun _ => []) (fun y => y = (if op = 1 ∨ op = 2 then 1 else 2)) ?_ ?_
  · refine g_seq ?_
    refine g_region ?_
    refine g_pure (p_move rfl) rfl ?_
    refine g_pure (p_eql rfl rfl) rfl ?_
    refine g_pure (p_move rfl) rfl ?_
    refine g_splitd rfl rfl (fun h1 => ?_) (fun h1 => ?_)
    · refine g_no rfl rfl rfl rfl ?_
      refine g_no rfl rfl rfl rfl ?_
      first | refine g_pure (p_pickt rfl rfl) rfl ?_ | refine g_pure (p_pickf rfl rfl) rfl ?_
      refine g_nil ?_
      refine g_qt ?_
      refine g_ift rfl ?_
      refine g_region ?_
      refine g_pure (p_assign rfl) rfl ?_
      refine g_nil ?_
      refine g_qn ?_
      first | refine g_joined 1 ⟨rfl, rfl, rfl, trivial⟩ .nil ?_ | refine g_joined 2 ⟨rfl, rfl, rfl, trivial⟩ .nil ?_
      (repeat' split) <;> omega
    · refine g_yes rfl rfl ?_
      refine g_pure (p_move rfl) rfl ?_
      refine g_yes rfl rfl ?_
      refine g_pure (p_eql rfl rfl) rfl ?_
      first | refine g_pure (p_pickt rfl rfl) rfl ?_ | refine g_pure (p_pickf rfl rfl) rfl ?_
      refine g_nil ?_
      refine g_qt ?_
      refine g_ifdL rfl (fun h3 => ?_) (fun h3 => ?_)
      · refine g_region ?_
        refine g_pure (p_assign rfl) rfl ?_
        refine g_nil ?_
        refine g_qn ?_
        first | refine g_joined 1 ⟨rfl, rfl, rfl, trivial⟩ .nil ?_ | refine g_joined 2 ⟨rfl, rfl, rfl, trivial⟩ .nil ?_
        (repeat' split) <;> omega
      · refine g_skip ?_
        refine g_qn ?_
        first | refine g_joined 1 ⟨rfl, rfl, rfl, trivial⟩ .nil ?_ | refine g_joined 2 ⟨rfl, rfl, rfl, trivial⟩ .nil ?_
        (repeat' split) <;> omega
  rintro n k4
  refine g_qt ?_
  refine g_seq ?_
  refine g_join (fun _ : Unit => [(0, .int .i64 op), (1, .slice wa ws.length wc), (6, .int .i64 n)]) (fun _ => []) (fun _ => ws.length = n) ?_ ?_
  · refine g_seq ?_
    refine g_region ?_
    refine g_pure (p_move rfl) rfl ?_
    refine g_pure (p_len (by rfl) rfl) rfl ?_
    refine g_pure (p_move rfl) rfl ?_
    refine g_pure (p_neq rfl rfl) rfl ?_
    refine g_nil ?_
    refine g_qt ?_
    refine g_ifndL rfl (fun h1 => ?_) (fun h1 => ?_)
    · refine g_seq ?_
      refine g_region ?_
      refine g_pure (p_assign rfl) rfl ?_
      refine g_pure (p_assign rfl) rfl ?_
      refine g_nil ?_
      refine g_qt ?_
      refine g_ret ?_
      refine g_qn_ret ?_
      refine g_qt_ret ?_
      refine g_post (Ho := []) (rs := [.tmp 4, .tmp 5]) rfl (.tmp rfl (.tmp rfl .nil)) ⟨?_, rfl⟩ .nil
      rw [show formF op ws = (0, 9) by unfold formF; rw [if_neg k1, if_pos (by omega)]]
      rfl
    · refine g_skip ?_
      refine g_qn ?_
      exact g_joined () (by (repeat (first | exact trivial | refine ⟨by rfl, ?_⟩)); done) .nil (by omega)
  rintro _ k3
  refine g_qt ?_
  refine g_seq ?_
  refine g_join (fun _ : Unit => [(0, .int .i64 op), (1, .slice wa ws.length wc), (6, .int .i64 n)]) (fun _ => []) (fun _ => ¬ (op = 11 ∨ op = 12)) ?_ ?_
  · have kk : op = 11 ∨ op = 12 → formF op ws = (if ws.getD 0 0 ≠ ws.getD 1 0 ∨ ws.getD 0 0 < 1 ∨ 16 < ws.getD 0 0 then (0, 16) else (1, 0)) := fun h => by unfold formF; rw [if_neg k1, if_neg (by omega), if_pos h]
    have kn : op = 11 ∨ op = 12 → n = 2 := fun h => by rw [k4, if_neg (by omega)]
    refine g_seq ?_
    refine g_region ?_
    refine g_pure (p_move rfl) rfl ?_
    refine g_pure (p_eql rfl rfl) rfl ?_
    refine g_pure (p_move rfl) rfl ?_
    refine g_splitd rfl rfl (fun h1 => ?_) (fun h1 => ?_)
    · refine g_no rfl rfl rfl rfl ?_
      refine g_no rfl rfl rfl rfl ?_
      first | refine g_pure (p_pickt rfl rfl) rfl ?_ | refine g_pure (p_pickf rfl rfl) rfl ?_
      refine g_nil ?_
      refine g_qt ?_
      refine g_ift rfl ?_
      refine g_seq ?_
      refine g_seq ?_
      refine m_begin0 (.fl 0 0 (.fl 1 0 (.fl 2 1 (.fl 3 0 (.fl 4 0 (.fl 5 1 (.fl 6 0 (.fl 7 0 (.fl 8 0 (.fl 9 0 (.fl 10 1 (.fl 11 0 (.fl 12 0 (.fl 13 0 (.fl 14 0 (.fl 15 0 (.fl 16 1 (.fl 17 0 (.fl 18 0 .done))))))))))))))))))) (by kernel_rfl) (by kernel_rfl) ?_
      refine m_float0 rfl (fun _ _ => p_move rfl) rfl ?_
      refine m_float0 rfl (fun _ _ => p_indexAddr rfl rfl (by omega) (fun _ => (hr (by omega)).1)) rfl ?_
      refine m_float rfl (p_load (by rfl) rfl (Has.ro (hr (by omega)).2.1) ((hr (by omega)).2.2 0 (by omega))) rfl ?_
      refine m_float0 rfl (fun _ _ => p_move rfl) rfl ?_
      refine m_float0 rfl (fun _ _ => p_indexAddr rfl rfl (by omega) (fun _ => (hr (by omega)).1)) rfl ?_
      refine m_float rfl (p_load (by rfl) rfl (Has.ro (hr (by omega)).2.1) ((hr (by omega)).2.2 1 (by omega))) rfl ?_
      refine m_float0 rfl (fun _ _ => p_neq rfl rfl) rfl ?_
      refine m_float0 rfl (fun _ _ => p_move rfl) rfl ?_
      refine m_splitnd 7 rfl rfl (fun h3 => ?_) (fun h3 => ?_)
      · refine m_no0 rfl rfl rfl rfl rfl ?_
        refine m_no0 rfl rfl rfl rfl rfl ?_
        refine m_no rfl rfl rfl rfl rfl ?_
        refine m_no0 rfl rfl rfl rfl rfl ?_
        first | refine m_float0 rfl (fun _ _ => p_pickt rfl rfl) rfl ?_ | refine m_float0 rfl (fun _ _ => p_pickf rfl rfl) rfl ?_
        refine m_float0 rfl (fun _ _ => p_move rfl) rfl ?_
        refine m_no0 rfl rfl rfl rfl rfl ?_
        refine m_no0 rfl rfl rfl rfl rfl ?_
        refine m_no rfl rfl rfl rfl rfl ?_
        refine m_no0 rfl rfl rfl rfl rfl ?_
        first | refine m_float0 rfl (fun _ _ => p_pickt rfl rfl) rfl ?_ | refine m_float0 rfl (fun _ _ => p_pickf rfl rfl) rfl ?_
        refine m_nil ?_
        refine g_qt ?_
        refine g_ift rfl ?_
        refine g_seq ?_
        refine g_region ?_
        refine g_pure (p_assign rfl) rfl ?_
        refine g_pure (p_assign rfl) rfl ?_
        refine g_nil ?_
        refine g_qt ?_
        refine g_ret ?_
        refine g_qt_ret ?_
        refine g_qn_ret ?_
        refine g_qt_ret ?_
        refine g_post (Ho := []) (rs := [.tmp 4, .tmp 5]) rfl (.tmp rfl (.tmp rfl .nil)) ⟨?_, rfl⟩ .nil
        rw [kk (by omega)]
        split <;> first | rfl | (exfalso; omega)
      · refine m_yes0 rfl rfl rfl (fun _ _ => p_move rfl) rfl ?_
        refine m_yes0 rfl rfl rfl (fun _ _ => p_indexAddr rfl rfl (by omega) (fun _ => (hr (by omega)).1)) rfl ?_
        refine m_yes rfl rfl rfl (p_load (by rfl) rfl (Has.ro (hr (by omega)).2.1) ((hr (by omega)).2.2 0 (by omega))) rfl ?_
        refine m_yes0 rfl rfl rfl (fun _ _ => p_lss rfl rfl) rfl ?_
        first | refine m_float0 rfl (fun _ _ => p_pickt rfl rfl) rfl ?_ | refine m_float0 rfl (fun _ _ => p_pickf rfl rfl) rfl ?_
        refine m_float0 rfl (fun _ _ => p_move rfl) rfl ?_
        refine m_splitd 13 rfl rfl (fun h6 => ?_) (fun h6 => ?_)
        · refine m_no0 rfl rfl rfl rfl rfl ?_
          refine m_no0 rfl rfl rfl rfl rfl ?_
          refine m_no rfl rfl rfl rfl rfl ?_
          refine m_no0 rfl rfl rfl rfl rfl ?_
          first | refine m_float0 rfl (fun _ _ => p_pickt rfl rfl) rfl ?_ | refine m_float0 rfl (fun _ _ => p_pickf rfl rfl) rfl ?_
          refine m_nil ?_
          refine g_qt ?_
          refine g_ift rfl ?_
          refine g_seq ?_
          refine g_region ?_
          refine g_pure (p_assign rfl) rfl ?_
          refine g_pure (p_assign rfl) rfl ?_
          refine g_nil ?_
          refine g_qt ?_
          refine g_ret ?_
          refine g_qt_ret ?_
          refine g_qn_ret ?_
          refine g_qt_ret ?_
          refine g_post (Ho := []) (rs := [.tmp 4, .tmp 5]) rfl (.tmp rfl (.tmp rfl .nil)) ⟨?_, rfl⟩ .nil
          rw [kk (by omega)]
          split <;> first | rfl | (exfalso; omega)
        · refine m_yes0 rfl rfl rfl (fun _ _ => p_move rfl) rfl ?_
          refine m_yes0 rfl rfl rfl (fun _ _ => p_indexAddr rfl rfl (by omega) (fun _ => (hr (by omega)).1)) rfl ?_
          refine m_yes rfl rfl rfl (p_load (by rfl) rfl (Has.ro (hr (by omega)).2.1) ((hr (by omega)).2.2 0 (by omega))) rfl ?_
          refine m_yes0 rfl rfl rfl (fun _ _ => p_gtr rfl rfl) rfl ?_
          first | refine m_float0 rfl (fun _ _ => p_pickt rfl rfl) rfl ?_ | refine m_float0 rfl (fun _ _ => p_pickf rfl rfl) rfl ?_
          refine m_nil ?_
          refine g_qt ?_
          refine g_ifdL rfl (fun h8 => ?_) (fun h8 => ?_)
          · refine g_seq ?_
            refine g_region ?_
            refine g_pure (p_assign rfl) rfl ?_
            refine g_pure (p_assign rfl) rfl ?_
            refine g_nil ?_
            refine g_qt ?_
            refine g_ret ?_
            refine g_qt_ret ?_
            refine g_qn_ret ?_
            refine g_qt_ret ?_
            refine g_post (Ho := []) (rs := [.tmp 4, .tmp 5]) rfl (.tmp rfl (.tmp rfl .nil)) ⟨?_, rfl⟩ .nil
            rw [kk (by omega)]
            split <;> first | rfl | (exfalso; omega)
          · refine g_skip ?_
            refine g_qt ?_
            refine g_seq ?_
            refine g_region ?_
            refine g_pure (p_assign rfl) rfl ?_
            refine g_pure (p_assign rfl) rfl ?_
            refine g_nil ?_
            refine g_qt ?_
            refine g_ret ?_
            refine g_qn_ret ?_
            refine g_qt_ret ?_
            refine g_post (Ho := []) (rs := [.tmp 4, .tmp 5]) rfl (.tmp rfl (.tmp rfl .nil)) ⟨?_, rfl⟩ .nil
            rw [kk (by omega)]
            split <;> first | rfl | (exfalso; omega)
    · refine g_yes rfl rfl ?_
      refine g_pure (p_move rfl) rfl ?_
      refine g_yes rfl rfl ?_
      refine g_pure (p_eql rfl rfl) rfl ?_
      first | refine g_pure (p_pickt rfl rfl) rfl ?_ | refine g_pure (p_pickf rfl rfl) rfl ?_
      refine g_nil ?_
      refine g_qt ?_
      refine g_ifdL rfl (fun h9 => ?_) (fun h9 => ?_)
      · refine g_seq ?_
        refine g_seq ?_
        refine m_begin0 (.fl 0 0 (.fl 1 0 (.fl 2 1 (.fl 3 0 (.fl 4 0 (.fl 5 1 (.fl 6 0 (.fl 7 0 (.fl 8 0 (.fl 9 0 (.fl 10 1 (.fl 11 0 (.fl 12 0 (.fl 13 0 (.fl 14 0 (.fl 15 0 (.fl 16 1 (.fl 17 0 (.fl 18 0 .done))))))))))))))))))) (by kernel_rfl) (by kernel_rfl) ?_
        refine m_float0 rfl (fun _ _ => p_move rfl) rfl ?_
        refine m_float0 rfl (fun _ _ => p_indexAddr rfl rfl (by omega) (fun _ => (hr (by omega)).1)) rfl ?_
        refine m_float rfl (p_load (by rfl) rfl (Has.ro (hr (by omega)).2.1) ((hr (by omega)).2.2 0 (by omega))) rfl ?_
        refine m_float0 rfl (fun _ _ => p_move rfl) rfl ?_
        refine m_float0 rfl (fun _ _ => p_indexAddr rfl rfl (by omega) (fun _ => (hr (by omega)).1)) rfl ?_
        refine m_float rfl (p_load (by rfl) rfl (Has.ro (hr (by omega)).2.1) ((hr (by omega)).2.2 1 (by omega))) rfl ?_
        refine m_float0 rfl (fun _ _ => p_neq rfl rfl) rfl ?_
        refine m_float0 rfl (fun _ _ => p_move rfl) rfl ?_
        refine m_splitnd 7 rfl rfl (fun h10 => ?_) (fun h10 => ?_)
        · refine m_no0 rfl rfl rfl rfl rfl ?_
          refine m_no0 rfl rfl rfl rfl rfl ?_
          refine m_no rfl rfl rfl rfl rfl ?_
          refine m_no0 rfl rfl rfl rfl rfl ?_
          first | refine m_float0 rfl (fun _ _ => p_pickt rfl rfl) rfl ?_ | refine m_float0 rfl (fun _ _ => p_pickf rfl rfl) rfl ?_
          refine m_float0 rfl (fun _ _ => p_move rfl) rfl ?_
          refine m_no0 rfl rfl rfl rfl rfl ?_
          refine m_no0 rfl rfl rfl rfl rfl ?_
          refine m_no rfl rfl rfl rfl rfl ?_
          refine m_no0 rfl rfl rfl rfl rfl ?_
          first | refine m_float0 rfl (fun _ _ => p_pickt rfl rfl) rfl ?_ | refine m_float0 rfl (fun _ _ => p_pickf rfl rfl) rfl ?_
          refine m_nil ?_
          refine g_qt ?_
          refine g_ift rfl ?_
          refine g_seq ?_
          refine g_region ?_
          refine g_pure (p_assign rfl) rfl ?_
          refine g_pure (p_assign rfl) rfl ?_
          refine g_nil ?_
          refine g_qt ?_
          refine g_ret ?_
          refine g_qt_ret ?_
          refine g_qn_ret ?_
          refine g_qt_ret ?_
          refine g_post (Ho := []) (rs := [.tmp 4, .tmp 5]) rfl (.tmp rfl (.tmp rfl .nil)) ⟨?_, rfl⟩ .nil
          rw [kk (by omega)]
          split <;> first | rfl | (exfalso; omega)
        · refine m_yes0 rfl rfl rfl (fun _ _ => p_move rfl) rfl ?_
          refine m_yes0 rfl rfl rfl (fun _ _ => p_indexAddr rfl rfl (by omega) (fun _ => (hr (by omega)).1)) rfl ?_
          refine m_yes rfl rfl rfl (p_load (by rfl) rfl (Has.ro (hr (by omega)).2.1) ((hr (by omega)).2.2 0 (by omega))) rfl ?_
          refine m_yes0 rfl rfl rfl (fun _ _ => p_lss rfl rfl) rfl ?_
          first | refine m_float0 rfl (fun _ _ => p_pickt rfl rfl) rfl ?_ | refine m_float0 rfl (fun _ _ => p_pickf rfl rfl) rfl ?_
          refine m_float0 rfl (fun _ _ => p_move rfl) rfl ?_
          refine m_splitd 13 rfl rfl (fun h13 => ?_) (fun h13 => ?_)
          · refine m_no0 rfl rfl rfl rfl rfl ?_
            refine m_no0 rfl rfl rfl rfl rfl ?_
            refine m_no rfl rfl rfl rfl rfl ?_
            refine m_no0 rfl rfl rfl rfl rfl ?_
            first | refine m_float0 rfl (fun _ _ => p_pickt rfl rfl) rfl ?_ | refine m_float0 rfl (fun _ _ => p_pickf rfl rfl) rfl ?_
            refine m_nil ?_
            refine g_qt ?_
            refine g_ift rfl ?_
            refine g_seq ?_
            refine g_region ?_
            refine g_pure (p_assign rfl) rfl ?_
            refine g_pure (p_assign rfl) rfl ?_
            refine g_nil ?_
            refine g_qt ?_
            refine g_ret ?_
            refine g_qt_ret ?_
            refine g_qn_ret ?_
            refine g_qt_ret ?_
            refine g_post (Ho := []) (rs := [.tmp 4, .tmp 5]) rfl (.tmp rfl (.tmp rfl .nil)) ⟨?_, rfl⟩ .nil
            rw [kk (by omega)]
            split <;> first | rfl | (exfalso; omega)
          · refine m_yes0 rfl rfl rfl (fun _ _ => p_move rfl) rfl ?_
            refine m_yes0 rfl rfl rfl (fun _ _ => p_indexAddr rfl rfl (by omega) (fun _ => (hr (by omega)).1)) rfl ?_
            refine m_yes rfl rfl rfl (p_load (by rfl) rfl (Has.ro (hr (by omega)).2.1) ((hr (by omega)).2.2 0 (by omega))) rfl ?_
            refine m_yes0 rfl rfl rfl (fun _ _ => p_gtr rfl rfl) rfl ?_
            first | refine m_float0 rfl (fun _ _ => p_pickt rfl rfl) rfl ?_ | refine m_float0 rfl (fun _ _ => p_pickf rfl rfl) rfl ?_
            refine m_nil ?_
            refine g_qt ?_
            refine g_ifdL rfl (fun h15 => ?_) (fun h15 => ?_)
            · refine g_seq ?_
              refine g_region ?_
              refine g_pure (p_assign rfl) rfl ?_
              refine g_pure (p_assign rfl) rfl ?_
              refine g_nil ?_
              refine g_qt ?_
              refine g_ret ?_
              refine g_qt_ret ?_
              refine g_qn_ret ?_
              refine g_qt_ret ?_
              refine g_post (Ho := []) (rs := [.tmp 4, .tmp 5]) rfl (.tmp rfl (.tmp rfl .nil)) ⟨?_, rfl⟩ .nil
              rw [kk (by omega)]
              split <;> first | rfl | (exfalso; omega)
            · refine g_skip ?_
              refine g_qt ?_
              refine g_seq ?_
              refine g_region ?_
              refine g_pure (p_assign rfl) rfl ?_
              refine g_pure (p_assign rfl) rfl ?_
              refine g_nil ?_
              refine g_qt ?_
              refine g_ret ?_
              refine g_qn_ret ?_
              refine g_qt_ret ?_
              refine g_post (Ho := []) (rs := [.tmp 4, .tmp 5]) rfl (.tmp rfl (.tmp rfl .nil)) ⟨?_, rfl⟩ .nil
              rw [kk (by omega)]
              split <;> first | rfl | (exfalso; omega)
      · refine g_skip ?_
        refine g_qn ?_
        exact g_joined () (by (repeat (first | exact trivial | refine ⟨by rfl, ?_⟩)); done) .nil (by omega)
  rintro _ k2
  refine g_qt ?_
  refine g_seq ?_
  refine g_region ?_
  refine g_pure (p_assign rfl) rfl ?_
  refine g_nil ?_
  refine g_qt ?_
  refine g_seq ?_
  refine g_join (fun y : Nat => [(0, .int .i64 op), (1, .slice wa ws.length wc), (6, .int .i64 n), (7, .int .i64 y)]) (fun _ => []) (fun y => y = (if op = 1 ∨ op = 3 ∨ op = 4 ∨ op = 5 then 1 else 16)) ?_ ?_
  · refine g_seq ?_
    refine g_region ?_
    refine g_pure (p_move rfl) rfl ?_
    refine g_pure (p_eql rfl rfl) rfl ?_
    refine g_pure (p_move rfl) rfl ?_
    refine g_splitd rfl rfl (fun h1 => ?_) (fun h1 => ?_)
    · refine g_no rfl rfl rfl rfl ?_
      refine g_no rfl rfl rfl rfl ?_
      first | refine g_pure (p_pickt rfl rfl) rfl ?_ | refine g_pure (p_pickf rfl rfl) rfl ?_
      refine g_pure (p_move rfl) rfl ?_
      refine g_no rfl rfl rfl rfl ?_
      refine g_no rfl rfl rfl rfl ?_
      first | refine g_pure (p_pickt rfl rfl) rfl ?_ | refine g_pure (p_pickf rfl rfl) rfl ?_
      refine g_pure (p_move rfl) rfl ?_
      refine g_no rfl rfl rfl rfl ?_
      refine g_no rfl rfl rfl rfl ?_
      first | refine g_pure (p_pickt rfl rfl) rfl ?_ | refine g_pure (p_pickf rfl rfl) rfl ?_
      refine g_nil ?_
      refine g_qt ?_
      refine g_ift rfl ?_
      refine g_region ?_
      refine g_pure (p_assign rfl) rfl ?_
      refine g_nil ?_
      refine g_qn ?_
      first | refine g_joined 1 ⟨rfl, rfl, rfl, rfl, trivial⟩ .nil ?_ | refine g_joined 16 ⟨rfl, rfl, rfl, rfl, trivial⟩ .nil ?_
      (repeat' split) <;> omega
    · refine g_yes rfl rfl ?_
      refine g_pure (p_move rfl) rfl ?_
      refine g_yes rfl rfl ?_
      refine g_pure (p_eql rfl rfl) rfl ?_
      first | refine g_pure (p_pickt rfl rfl) rfl ?_ | refine g_pure (p_pickf rfl rfl) rfl ?_
      refine g_pure (p_move rfl) rfl ?_
      refine g_splitd rfl rfl (fun h5 => ?_) (fun h5 => ?_)
      · refine g_no rfl rfl rfl rfl ?_
        refine g_no rfl rfl rfl rfl ?_
        first | refine g_pure (p_pickt rfl rfl) rfl ?_ | refine g_pure (p_pickf rfl rfl) rfl ?_
        refine g_pure (p_move rfl) rfl ?_
        refine g_no rfl rfl rfl rfl ?_
        refine g_no rfl rfl rfl rfl ?_
        first | refine g_pure (p_pickt rfl rfl) rfl ?_ | refine g_pure (p_pickf rfl rfl) rfl ?_
        refine g_nil ?_
        refine g_qt ?_
        refine g_ift rfl ?_
        refine g_region ?_
        refine g_pure (p_assign rfl) rfl ?_
        refine g_nil ?_
        refine g_qn ?_
        first | refine g_joined 1 ⟨rfl, rfl, rfl, rfl, trivial⟩ .nil ?_ | refine g_joined 16 ⟨rfl, rfl, rfl, rfl, trivial⟩ .nil ?_
        (repeat' split) <;> omega
      · refine g_yes rfl rfl ?_
        refine g_pure (p_move rfl) rfl ?_
        refine g_yes rfl rfl ?_
        refine g_pure (p_eql rfl rfl) rfl ?_
        first | refine g_pure (p_pickt rfl rfl) rfl ?_ | refine g_pure (p_pickf rfl rfl) rfl ?_
        refine g_pure (p_move rfl) rfl ?_
        refine g_splitd rfl rfl (fun h8 => ?_) (fun h8 => ?_)
        · refine g_no rfl rfl rfl rfl ?_
          refine g_no rfl rfl rfl rfl ?_
          first | refine g_pure (p_pickt rfl rfl) rfl ?_ | refine g_pure (p_pickf rfl rfl) rfl ?_
          refine g_nil ?_
          refine g_qt ?_
          refine g_ift rfl ?_
          refine g_region ?_
          refine g_pure (p_assign rfl) rfl ?_
          refine g_nil ?_
          refine g_qn ?_
          first | refine g_joined 1 ⟨rfl, rfl, rfl, rfl, trivial⟩ .nil ?_ | refine g_joined 16 ⟨rfl, rfl, rfl, rfl, trivial⟩ .nil ?_
          (repeat' split) <;> omega
        · refine g_yes rfl rfl ?_
          refine g_pure (p_move rfl) rfl ?_
          refine g_yes rfl rfl ?_
          refine g_pure (p_eql rfl rfl) rfl ?_
          first | refine g_pure (p_pickt rfl rfl) rfl ?_ | refine g_pure (p_pickf rfl rfl) rfl ?_
          refine g_nil ?_
          refine g_qt ?_
          refine g_ifdL rfl (fun h10 => ?_) (fun h10 => ?_)
          · refine g_region ?_
            refine g_pure (p_assign rfl) rfl ?_
            refine g_nil ?_
            refine g_qn ?_
            first | refine g_joined 1 ⟨rfl, rfl, rfl, rfl, trivial⟩ .nil ?_ | refine g_joined 16 ⟨rfl, rfl, rfl, rfl, trivial⟩ .nil ?_
            (repeat' split) <;> omega
          · refine g_skip ?_
            refine g_qn ?_
            first | refine g_joined 1 ⟨rfl, rfl, rfl, rfl, trivial⟩ .nil ?_ | refine g_joined 16 ⟨rfl, rfl, rfl, rfl, trivial⟩ .nil ?_
            (repeat' split) <;> omega
  rintro W k5
  refine g_qt ?_
  have hF : formF op ws = if ws.getD 0 0 ≠ W ∨ (¬ (op = 1 ∨ op = 2) ∧ ws.getD 1 0 ≠ W) then (0, 16) else (if op = 2 ∨ (6 ≤ op ∧ op ≤ 10) then 16 else 1, 0) := by
    unfold formF
    rw [if_neg k1, if_neg (by omega), if_neg k2, ← k5]
  refine g_seq ?_
  refine g_seq ?_
  refine g_region ?_
  refine g_pure (p_assign rfl) rfl ?_
  refine g_nil ?_
  refine g_qt ?_
  refine g_block ?_
  refine g_loop (fun k : Nat => [(0, .int .i64 op), (1, .slice wa ws.length wc), (6, .int .i64 n), (7, .int .i64 W), (8, .int .i64 k)]) (fun _ => []) (fun k => k ≤ n ∧ ∀ j, j < k → ws.getD j 0 = W) (fun k => n - k) 0 ⟨Nat.zero_le _, fun j h => absurd h (Nat.not_lt_zero j)⟩ (by (repeat (first | exact trivial | refine ⟨by rfl, ?_⟩)); done) .nil ?_
  rintro k ⟨hk, hall⟩
  refine g_seq ?_
  refine g_seq ?_
  refine g_region ?_
  refine g_pure (p_move rfl) rfl ?_
  refine g_pure (p_move rfl) rfl ?_
  refine g_pure (p_lss rfl rfl) rfl ?_
  refine g_nil ?_
  refine g_qt ?_
  refine g_ifd rfl (fun q => ?_) (fun q => ?_)
  · refine g_skip ?_
    refine g_qt ?_
    refine g_seq ?_
    refine g_block ?_
    refine g_seq ?_
    refine g_region ?_
    refine g_pure (p_move rfl) rfl ?_
    refine g_pure (p_move rfl) rfl ?_
    refine g_pure (p_indexAddr rfl rfl (by omega) (fun _ => (hr (by omega)).1)) rfl ?_
    refine g_pure (p_load (by rfl) rfl (Has.ro (hr (by omega)).2.1) ((hr (by omega)).2.2 k (by omega))) rfl ?_
    refine g_pure (p_move rfl) rfl ?_
    refine g_pure (p_neq rfl rfl) rfl ?_
    refine g_nil ?_
    refine g_qt ?_
    refine g_ifnd rfl (fun q2 => ?_) (fun q2 => ?_)
    · refine g_seq ?_
      refine g_region ?_
      refine g_pure (p_assign rfl) rfl ?_
      refine g_pure (p_assign rfl) rfl ?_
      refine g_nil ?_
      refine g_qt ?_
      refine g_ret ?_
      refine g_qb_ret ?_
      refine g_qt_ret ?_
      refine g_qn_ret ?_
      refine g_qb_ret ?_
      refine g_qt_ret ?_
      refine g_post (Ho := []) (rs := [.tmp 4, .tmp 5]) rfl (.tmp rfl (.tmp rfl .nil)) ⟨?_, rfl⟩ .nil
      have hk2 : k = 0 ∨ k = 1 := by split at k4 <;> omega
      rw [hF, if_pos]
      · rfl
      · rcases hk2 with rfl | rfl
        · exact .inl (by omega)
        · exact .inr ⟨fun h => by rw [if_pos h] at k4; omega, by omega⟩
    · refine g_skip ?_
      refine g_qb ?_
      refine g_qt ?_
      refine g_region ?_
      refine g_pure (p_move rfl) rfl ?_
      first | refine g_pure (p_addi rfl rfl (by omega)) rfl ?_ | refine g_pure (p_add rfl rfl) rfl ?_
      refine g_pure (p_assign rfl) rfl ?_
      refine g_nil ?_
      refine g_qn ?_
      exact g_next (k + 1) (by (repeat (first | exact trivial | refine ⟨by rfl, ?_⟩)); done) .nil ⟨by omega, fun j hj => (if e : j = k then by subst e; omega else hall j (by omega))⟩ (by omega)
  · have hkn : k = n := by omega
    subst hkn
    have h0 : ws.getD 0 0 = W := hall 0 (by split at k4 <;> omega)
    have h1 : ¬ (op = 1 ∨ op = 2) → ws.getD 1 0 = W := fun h => hall 1 (by rw [if_neg h] at k4; omega)
    rw [if_neg (by omega)] at hF
    refine g_exit ?_
    refine g_qt_exit ?_
    refine g_qn_exit ?_
    refine g_qb_exit ?_
    refine g_qt ?_
    refine g_seq ?_
    refine g_seq ?_
    refine g_region ?_
    refine g_pure (p_move rfl) rfl ?_
    refine g_pure (p_eql rfl rfl) rfl ?_
    refine g_pure (p_move rfl) rfl ?_
    refine g_splitd rfl rfl (fun h1 => ?_) (fun h1 => ?_)
    · refine g_no rfl rfl rfl rfl ?_
      refine g_no rfl rfl rfl rfl ?_
      refine g_no rfl rfl rfl rfl ?_
      refine g_nou rfl rfl rfl ?_
      refine g_nou rfl rfl rfl ?_
      refine g_no rfl rfl rfl rfl ?_
      first | refine g_pure (p_pickt rfl rfl) rfl ?_ | refine g_pure (p_pickf rfl rfl) rfl ?_
      refine g_nil ?_
      refine g_qt ?_
      refine g_ift rfl ?_
      refine g_seq ?_
      refine g_region ?_
      refine g_pure (p_assign rfl) rfl ?_
      refine g_pure (p_assign rfl) rfl ?_
      refine g_nil ?_
      refine g_qt ?_
      refine g_ret ?_
      refine g_qt_ret ?_
      refine g_post (Ho := []) (rs := [.tmp 4, .tmp 5]) rfl (.tmp rfl (.tmp rfl .nil)) ⟨?_, rfl⟩ .nil
      rw [hF]
      dsimp only
      (split <;> first | rfl | (exfalso; omega))
    · refine g_yes rfl rfl ?_
      refine g_pure (p_move rfl) rfl ?_
      refine g_yes rfl rfl ?_
      refine g_pure (p_geq rfl rfl) rfl ?_
      refine g_yes rfl rfl ?_
      refine g_pure (p_move rfl) rfl ?_
      refine g_splitd rfl rfl (fun h4 => ?_) (fun h4 => ?_)
      · refine g_yes rfl rfl ?_
        refine g_pure (p_move rfl) rfl ?_
        refine g_yes rfl rfl ?_
        refine g_pure (p_leq rfl rfl) rfl ?_
        refine g_yes rfl rfl ?_
        first | refine g_pure (p_pickt rfl rfl) rfl ?_ | refine g_pure (p_pickf rfl rfl) rfl ?_
        first | refine g_pure (p_pickt rfl rfl) rfl ?_ | refine g_pure (p_pickf rfl rfl) rfl ?_
        refine g_nil ?_
        refine g_qt ?_
        refine g_ifdL rfl (fun h5 => ?_) (fun h5 => ?_)
        · refine g_seq ?_
          refine g_region ?_
          refine g_pure (p_assign rfl) rfl ?_
          refine g_pure (p_assign rfl) rfl ?_
          refine g_nil ?_
          refine g_qt ?_
          refine g_ret ?_
          refine g_qt_ret ?_
          refine g_post (Ho := []) (rs := [.tmp 4, .tmp 5]) rfl (.tmp rfl (.tmp rfl .nil)) ⟨?_, rfl⟩ .nil
          rw [hF]
          dsimp only
          (split <;> first | rfl | (exfalso; omega))
        · refine g_skip ?_
          refine g_qt ?_
          refine g_seq ?_
          refine g_region ?_
          refine g_pure (p_assign rfl) rfl ?_
          refine g_pure (p_assign rfl) rfl ?_
          refine g_nil ?_
          refine g_qt ?_
          refine g_ret ?_
          refine g_post (Ho := []) (rs := [.tmp 4, .tmp 5]) rfl (.tmp rfl (.tmp rfl .nil)) ⟨?_, rfl⟩ .nil
          rw [hF]
          dsimp only
          (split <;> first | rfl | (exfalso; omega))
      · refine g_no rfl rfl rfl rfl ?_
        refine g_no rfl rfl rfl rfl ?_
        refine g_yes rfl rfl ?_
        first | refine g_pure (p_pickt rfl rfl) rfl ?_ | refine g_pure (p_pickf rfl rfl) rfl ?_
        first | refine g_pure (p_pickt rfl rfl) rfl ?_ | refine g_pure (p_pickf rfl rfl) rfl ?_
        refine g_nil ?_
        refine g_qt ?_
        refine g_iff rfl ?_
        refine g_skip ?_
        refine g_qt ?_
        refine g_seq ?_
        refine g_region ?_
        refine g_pure (p_assign rfl) rfl ?_
        refine g_pure (p_assign rfl) rfl ?_
        refine g_nil ?_
        refine g_qt ?_
        refine g_ret ?_
        refine g_post (Ho := []) (rs := [.tmp 4, .tmp 5]) rfl (.tmp rfl (.tmp rfl .nil)) ⟨?_, rfl⟩ .nil
        rw [hF]
        dsimp only
        (split <;> first | rfl | (exfalso; omega))
end Go.Proofs.Ytkebblmmgcgjkaa
/- Chapter 38: the document's Apply; helpers of the statements. Conditions: none. -/
namespace Go.Z.Bit
set_option maxRecDepth 8000
set_option linter.unusedVariables false
set_option linter.unusedSimpArgs false
set_option linter.unusedSectionVars false
open Go Go.Z Go.Z.Val Go.Z.Aig Go.Proofs.Ytkebblmmgcgjkaa
theorem tmod_in {a b : Int} (ha : -32768 ≤ a ∧ a ≤ 32767) : -32768 ≤ a.tmod b ∧ a.tmod b ≤ 32767 := by
  rw [tmod_abs]
  have h1 := Nat.mod_le a.natAbs b.natAbs
  by_cases h : a < 0
  · rw [decide_eq_true h, if_pos rfl]; omega
  · rw [decide_eq_false h, if_neg (by simp)]; omega
theorem opF_in (op a b : Int) : -32768 ≤ opF op a b ∧ opF op a b ≤ 32767 := by
  unfold opF
  split
  · unfold computeF
    have h1 := wr_in a
    (repeat' split) <;> first | exact wr_in _ | omega | exact tmod_in h1
  · unfold truth; split <;> omega
def dF (op : Int) (args : List (List Bool)) : List Bool × Int := if (formF op (args.map List.length)).2 = 0 then (bitsR (outF op) (opF op (sg (args.headD [])) (sg (args.getLastD []))), 0) else ([], (formF op (args.map List.length)).2)
theorem sg_bit {l : List Bool} (h : l.length = 1) : sg l = 0 ∨ sg l = 1 := by
  obtain ⟨x, rfl⟩ := one_bit h
  rw [sg_one]; cases x
  · exact .inl rfl
  · exact .inr rfl
/-- what the document's errors of operands tell -/
theorem form_ok0 {op : Int} {ws : List Nat} (h : (formF op ws).2 = 0) : (1 ≤ op ∧ op ≤ 16) ∧ ws.length = (if op = 1 ∨ op = 2 then 1 else 2) ∧ (formF op ws).1 = outF op ∧ ws.getD 0 0 = widthF op (ws.getD 0 0) ∧ (¬ (op = 1 ∨ op = 2) → ws.getD 1 0 = ws.getD 0 0) := by
  unfold formF at h ⊢
  by_cases h1 : op < 1 ∨ 16 < op
  · rw [if_pos h1] at h; cases h
  rw [if_neg h1] at h ⊢
  by_cases h2 : ws.length ≠ (if op = 1 ∨ op = 2 then 1 else 2)
  · rw [if_pos h2] at h; cases h
  rw [if_neg h2] at h ⊢
  by_cases h3 : op = 11 ∨ op = 12
  · rw [if_pos h3] at h ⊢
    by_cases h4 : ws.getD 0 0 ≠ ws.getD 1 0 ∨ ws.getD 0 0 < 1 ∨ 16 < ws.getD 0 0
    · rw [if_pos h4] at h; cases h
    rw [if_neg h4]
    refine ⟨by omega, by omega, ?_, ?_, fun _ => by omega⟩
    · unfold outF; rw [if_neg (by omega)]; rfl
    · unfold widthF; rw [if_neg (by omega), if_pos h3]; omega
  · rw [if_neg h3] at h ⊢
    by_cases h4 : ws.getD 0 0 ≠ (if op = 1 ∨ op = 3 ∨ op = 4 ∨ op = 5 then 1 else 16) ∨ (¬ (op = 1 ∨ op = 2) ∧ ws.getD 1 0 ≠ (if op = 1 ∨ op = 3 ∨ op = 4 ∨ op = 5 then 1 else 16))
    · rw [if_pos h4] at h; cases h
    rw [if_neg h4]
    have h5 : ws.getD 0 0 = widthF op (ws.getD 0 0) := by
      unfold widthF
      by_cases h6 : op = 1 ∨ op = 3 ∨ op = 4 ∨ op = 5
      · rw [if_pos h6] at h4 ⊢; omega
      · rw [if_neg h6] at h4 ⊢; rw [if_neg h3]; omega
    refine ⟨by omega, by omega, ?_, h5, fun h7 => ?_⟩
    · unfold outF; split <;> rfl
    · by_cases h8 : ws.getD 1 0 = (if op = 1 ∨ op = 3 ∨ op = 4 ∨ op = 5 then 1 else 16)
      · omega
      · exact absurd (.inr ⟨h7, h8⟩) h4
theorem args_split {op : Int} {args : List (List Bool)} (h : args.length = (if op = 1 ∨ op = 2 then 1 else 2)) : (∃ x, args = [x] ∧ (op = 1 ∨ op = 2)) ∨ (∃ x y, args = [x, y] ∧ ¬ (op = 1 ∨ op = 2)) := by
  by_cases h1 : op = 1 ∨ op = 2
  · rw [if_pos h1] at h
    match args, h with
    | [x], _ => exact .inl ⟨x, rfl, h1⟩
  · rw [if_neg h1] at h
    match args, h with
    | [x, y], _ => exact .inr ⟨x, y, rfl, h1⟩
theorem grp1 {op : Int} (h : op = 1 ∨ op = 3 ∨ op = 4 ∨ op = 5) : (groupF op).1 = 1 := by rcases h with rfl | rfl | rfl | rfl <;> rfl
theorem grp3 {op : Int} (h : op = 11 ∨ op = 12) : (groupF op).1 = 3 := by rcases h with rfl | rfl <;> rfl
theorem grp24 {op : Int} (h1 : 1 ≤ op ∧ op ≤ 16) (h : ¬ (op = 1 ∨ op = 3 ∨ op = 4 ∨ op = 5)) (h2 : ¬ (op = 11 ∨ op = 12)) : (groupF op).1 = 2 ∨ (groupF op).1 = 4 := by
  rcases (show op = 2 ∨ op = 6 ∨ op = 7 ∨ op = 8 ∨ op = 9 ∨ op = 10 ∨ op = 13 ∨ op = 14 ∨ op = 15 ∨ op = 16 by omega) with rfl | rfl | rfl | rfl | rfl | rfl | rfl | rfl | rfl | rfl <;> decide
theorem grp0 {op : Int} (h1 : 1 ≤ op ∧ op ≤ 16) : (groupF op).1 ≠ 0 ∧ (groupF op).2 = (if op = 1 ∨ op = 2 then 1 else 2) := by
  rcases (show op = 1 ∨ op = 2 ∨ op = 3 ∨ op = 4 ∨ op = 5 ∨ op = 6 ∨ op = 7 ∨ op = 8 ∨ op = 9 ∨ op = 10 ∨ op = 11 ∨ op = 12 ∨ op = 13 ∨ op = 14 ∨ op = 15 ∨ op = 16 by omega) with rfl | rfl | rfl | rfl | rfl | rfl | rfl | rfl | rfl | rfl | rfl | rfl | rfl | rfl | rfl | rfl <;> decide
theorem form_apply {op : Int} {args : List (List Bool)} (h : (formF op (args.map List.length)).2 = 0) : applyF op (args.map sg) = (opF op (sg (args.headD [])) (sg (args.getLastD [])), 0) := by
  obtain ⟨h1, h2, h3, h4, h5⟩ := form_ok0 h
  rw [List.length_map] at h2
  have key : ∀ x : List Bool, x.length = widthF op (args.map List.length |>.getD 0 0) → argB (groupF op).1 (sg x) = true := by
    intro x hx
    have hw : (op = 1 ∨ op = 3 ∨ op = 4 ∨ op = 5) → x.length = 1 := fun h => by rw [hx]; unfold widthF; rw [if_pos h]
    have hw2 : ¬ (op = 1 ∨ op = 3 ∨ op = 4 ∨ op = 5) → ¬ (op = 11 ∨ op = 12) → x.length = 16 := fun h h' => by rw [hx]; unfold widthF; rw [if_neg h, if_neg h']
    by_cases h6 : op = 1 ∨ op = 3 ∨ op = 4 ∨ op = 5
    · rw [grp1 h6]
      exact decide_eq_true (sg_bit (hw h6))
    · by_cases h7 : op = 11 ∨ op = 12
      · rw [grp3 h7]; rfl
      · have h16 := sg16 (hw2 h6 h7)
        have hd := decide_eq_true (show -32768 ≤ sg x ∧ sg x ≤ 32767 from ⟨h16.2.1, h16.2.2.1⟩)
        rcases grp24 h1 h6 h7 with e | e
        · rw [e]; exact hd
        · rw [e]; exact hd
  obtain ⟨hk0, hg0⟩ := grp0 h1
  rcases args_split h2 with ⟨x, rfl, hop⟩ | ⟨x, y, rfl, hop⟩
  · have hg2 : (groupF op).2 = 1 := by rw [hg0, if_pos hop]
    unfold applyF
    rw [if_neg hk0, if_neg (by rw [hg2]; simp), if_pos (by simp [key x (by simpa using h4)]), hg2]
    rfl
  · have hg2 : (groupF op).2 = 2 := by rw [hg0, if_neg hop]
    have h6 : y.length = x.length := by simpa using h5 hop
    unfold applyF
    rw [if_neg hk0, if_neg (by rw [hg2]; simp), if_pos (by simp [key x (by simpa using h4), key y (by rw [h6]; simpa using h4)]), hg2]
    rfl
/-- the circuit's bits are the document's -/
theorem circ_law {op : Int} {args : List (List Bool)} (h : (formF op (args.map List.length)).2 = 0) : operateF op (args.headD []) (args.getLastD []) = (dF op args).1 := by
  obtain ⟨h1, h2, h3, h4, h5⟩ := form_ok0 h
  rw [List.length_map] at h2
  unfold dF
  rw [if_pos h]
  rcases args_split h2 with ⟨x, rfl, hop⟩ | ⟨x, y, rfl, hop⟩
  · exact operate_law h1 (by simpa using h4) rfl (fun _ => rfl)
  · exact operate_law h1 (by simpa using h4) (by simpa using h5 hop) (fun h => absurd h (by omega))
theorem apply_form {op : Int} {lss : List (List Int)} : applyE op lss = (formF op (lss.map List.length)).2 := by
  unfold applyE formF
  by_cases h1 : op < 1 ∨ 16 < op
  · rw [if_pos h1, if_pos h1]
  rw [if_neg h1, if_neg h1, List.length_map]
  by_cases h2 : lss.length ≠ (if op = 1 ∨ op = 2 then 1 else 2)
  · rw [if_pos h2, if_pos h2]
  rw [if_neg h2, if_neg h2]
  have h2' : lss.length = (if op = 1 ∨ op = 2 then 1 else 2) := by omega
  by_cases h3 : op = 11 ∨ op = 12
  · rw [if_pos h3]
    rw [if_neg (by omega)] at h2'
    match lss, h2' with
    | [x, y], _ =>
      have e : wOk op [x, y] = decide (x.length = min (max x.length 1) 16 ∧ y.length = min (max x.length 1) 16) := by
        unfold wOk widthF
        rw [if_neg (by omega), if_pos h3]
        rw [Bool.eq_iff_iff]; simp
      rw [e]
      simp only [List.map_cons, List.map_nil, List.getD_cons_zero, List.getD_cons_succ]
      by_cases h4 : x.length ≠ y.length ∨ x.length < 1 ∨ 16 < x.length
      · rw [decide_eq_false (by omega), if_neg (by decide), if_pos h4]
      · rw [decide_eq_true (by omega), if_pos rfl, if_neg h4]
  · rw [if_neg h3]
    by_cases h5 : op = 1 ∨ op = 2
    · rw [if_pos h5] at h2'
      match lss, h2' with
      | [x], _ =>
        have e : wOk op [x] = decide (x.length = if op = 1 ∨ op = 3 ∨ op = 4 ∨ op = 5 then 1 else 16) := by
          unfold wOk widthF
          rw [if_neg h3, Bool.eq_iff_iff]; simp
        rw [e]
        simp only [List.map_cons, List.map_nil, List.getD_cons_zero]
        generalize (if op = 1 ∨ op = 3 ∨ op = 4 ∨ op = 5 then 1 else 16 : Nat) = W
        by_cases h6 : x.length = W
        · rw [decide_eq_true h6, if_pos rfl, if_neg (fun h => h.elim (fun h => h h6) (fun h => h.1 h5))]
        · rw [decide_eq_false h6, if_neg (by decide), if_pos (.inl h6)]
    · rw [if_neg h5] at h2'
      match lss, h2' with
      | [x, y], _ =>
        have e : wOk op [x, y] = decide (x.length = (if op = 1 ∨ op = 3 ∨ op = 4 ∨ op = 5 then 1 else 16) ∧ y.length = (if op = 1 ∨ op = 3 ∨ op = 4 ∨ op = 5 then 1 else 16)) := by
          unfold wOk widthF
          rw [if_neg h3, Bool.eq_iff_iff]; simp
        rw [e]
        simp only [List.map_cons, List.map_nil, List.getD_cons_zero, List.getD_cons_succ]
        generalize (if op = 1 ∨ op = 3 ∨ op = 4 ∨ op = 5 then 1 else 16 : Nat) = W
        by_cases h6 : x.length = W ∧ y.length = W
        · rw [decide_eq_true h6, if_pos rfl, if_neg (fun h => h.elim (fun h => h h6.1) (fun h => h.2 h6.2))]
        · rw [decide_eq_false h6, if_neg (by decide), if_pos (by
            by_cases h7 : x.length = W
            · exact .inr ⟨h5, fun h8 => h6 ⟨h7, h8⟩⟩
            · exact .inl h7)]

def S0 (m : Nat) : St := (0, 0, false) :: List.replicate m (0, 0, true)
theorem S0_len (m : Nat) : (S0 m).length = m + 1 := by simp [S0]
theorem S0_succ (m : Nat) : S0 m ++ [(0, 0, true)] = S0 (m + 1) := by unfold S0; rw [List.replicate_succ', List.cons_append]
theorem S0_wf : ∀ m : Nat, m ≤ 1000 → WF (S0 m)
  | 0, _ => WF.new
  | m + 1, h => by
    rw [← S0_succ]
    exact (S0_wf m (by omega)).input (by rw [S0_len]; omega)
theorem ins_rep : ∀ (k i : Nat), (ins i (List.replicate k ((0 : Int), (0 : Int), true))).length = k
  | 0, _ => rfl
  | k + 1, i => by
    rw [List.replicate_succ]
    show (_ :: ins (i + 1) (List.replicate k ((0 : Int), (0 : Int), true))).length = _
    rw [List.length_cons, ins_rep k]
theorem ins_no : ∀ (R : List Gt) (i : Nat), (∀ g ∈ R, g.2.2 = false) → ins i R = []
  | [], _, _ => rfl
  | g :: R, i, h => by
    have := h g (by simp)
    simp only [ins]
    rw [if_neg (by rw [this]; simp)]
    exact ins_no R _ fun x hx => h x (by simp [hx])
theorem ins_up {m : Nat} {T : St} {k : Nat} (h : Up (S0 m) T k) : (ins 0 T).length = m := by
  obtain ⟨R, rfl, hR⟩ := h.ext
  rw [ins_append, ins_no R _ hR, List.append_nil]
  show (ins 1 (List.replicate m ((0 : Int), (0 : Int), true))).length = m
  exact ins_rep m 1
theorem den_in {m k : Nat} (hm : m ≤ 1000) (hk : k < m) : Den (S0 m) (2 * ((k : Int) + 1)) (fun inp => inp.getD k false) := by
  have hw := S0_wf m hm
  have hl := S0_len m
  have hs : (S0 m)[k + 1]? = some (0, 0, true) := by
    unfold S0
    rw [List.getElem?_cons_succ, List.getElem?_replicate, if_pos hk]
  have hrk : rank (S0 m) (k + 1) = k := by
    unfold rank S0
    rw [List.take_succ_cons]
    show (ins 1 ((List.replicate m ((0 : Int), (0 : Int), true)).take k)).length = _
    rw [List.take_replicate, ins_rep]; omega
  refine ⟨⟨by omega, by omega⟩, fun inp => ?_⟩
  have h := litv_two (vals (S0 m) inp) (k + 1) (vals_inp hw (Nat.succ_pos k) hs inp)
  rw [hrk] at h
  rw [show (2 * ((k : Int) + 1)) = 2 * ((k + 1 : Nat) : Int) by omega]
  exact h
def inL (m : Nat) : List Int := (List.range m).map fun i : Nat => 2 * ((i : Int) + 1)
theorem inL_len (m : Nat) : (inL m).length = m := by simp [inL]
theorem den_ins {m : Nat} (hm : m ≤ 1000) : (∀ l ∈ inL m, has (S0 m) l) ∧ ∀ inp : List Bool, inp.length = m → (inL m).map (litv (vals (S0 m) inp)) = inp := by
  refine ⟨fun l hl => ?_, fun inp hi => ?_⟩
  · obtain ⟨k, hk, rfl⟩ := List.mem_map.1 hl
    exact (den_in hm (List.mem_range.1 hk)).1
  · unfold inL
    rw [List.map_map]
    apply List.ext_getElem
    · simp [hi]
    · intro k h1 h2
      have hk : k < m := by simpa using h1
      rw [List.getElem_map, List.getElem_range]
      show litv (vals (S0 m) inp) (2 * ((k : Int) + 1)) = _
      rw [(den_in hm hk).2 inp]
      show inp.getD k false = _
      rw [List.getD_eq_getElem?_getD, List.getElem?_eq_getElem h2]; rfl
theorem eval_up {m : Nat} {T : St} {k : Nat} (h : Up (S0 m) T k) {inp : List Bool} (hi : inp.length = m) {ls : List Int} {f : List Bool → List Bool} (d : DenL T ls f) : eval1 T inp ls = (f inp, 0) := by
  unfold eval1
  rw [if_neg (by rw [ins_up h]; omega), if_pos (List.all_eq_true.2 fun l hl => hasB_iff.2 (d.1 l hl)), d.2 inp]
end Go.Z.Bit
/- Chapter 38: the document's Apply, and helpers of the statements: the walk. Conditions: none. -/
namespace Go.Proofs.Ytkebblmmgcgjkaa
set_option maxRecDepth 8000
set_option linter.unusedVariables false
set_option linter.unusedSimpArgs false
set_option linter.unusedSectionVars false
open Go Go.Z Go.Z.Val Go.Z.Aig Go.Z.Bit

theorem brd2 {ρ : Nat → Obj → Prop} {al : Option Addr} {lss : List (List Bool)} (h : RSl2 ρ al (lss.map (·.map encB))) : ∃ b off cs T fz, 0 < lss.length → al = some ⟨b, off, none⟩ ∧ ρ b (.cells (cs : List Value).toArray T fz) ∧ ∀ j (hj : j < lss.length), ∃ ai ci, cs[off + j * 1]? = some (.slice ai lss[j].length ci) ∧ RSl ρ 1 ai lss[j].length (lss[j].map encB) := by
  by_cases h0 : 0 < lss.length
  · obtain ⟨b, off, cs, T, fz, h1, h2, h3⟩ := h.at (by rw [List.length_map]; exact h0)
    refine ⟨b, off, cs, T, fz, fun _ => ⟨h1, h2, fun j hj => ?_⟩⟩
    obtain ⟨ai, ci, e1, e2⟩ := h3 j (by rw [List.length_map]; exact hj)
    rw [List.getElem_map, List.length_map] at e1
    rw [List.getElem_map, List.length_map] at e2
    exact ⟨ai, ci, by rw [Nat.mul_one]; exact e1, e2⟩
  · exact ⟨0, 0, [], 0, (0, 0), fun h => absurd h h0⟩
theorem take_map_succ {α β : Type} (f : α → β) {l : List α} {k : Nat} (h : k < l.length) : (l.take k).map f ++ [f l[k]] = (l.take (k + 1)).map f := by
  rw [List.take_add_one, List.getElem?_eq_getElem h, Option.toList_some, List.map_append]; rfl
theorem getD_len {args : List (List Bool)} (h : ∀ x ∈ args, x.length ≤ 40) (k : Nat) : (args.map List.length).getD k 0 ≤ 1000000 := by
  rw [List.getD_eq_getElem?_getD, List.getElem?_map]
  cases e : args[k]? with
  | none => simp
  | some x => have := h x (List.mem_of_getElem? e); simp; omega

theorem dapply38_ok {ρ : Nat → Obj → Prop} {aa : Option Addr} {ac : Nat} {args : List (List Bool)} (op : Int) (hr : RSl2 ρ aa (args.map (·.map encB))) (hn : args.length ≤ 1000) (hl : ∀ x ∈ args, x.length ≤ 40) :
    Con Try.prog ρ 30 #[.int .i64 op, .slice aa args.length ac] [] (fun v H => ∃ a c, v = .tuple #[.slice a (dF op args).1.length c, .int .i64 (dF op args).2] ∧ H = [OwnSl 4 1 a (dF op args).1.length c ((dF op args).1.map encB)]) := by
  obtain ⟨b1, o1, cs1, T1, fz1, hrd⟩ := brd2 hr
  refine con_intro Try.func30 Try.call30 rfl Try.ntmps30 rfl (L := [(0, _), (1, _)]) rfl fun w hh => ?_
  refine g_seq ?_
  refine g_region ?_
  refine g_pure (p_assign rfl) rfl ?_
  refine g_pure (p_assign rfl) rfl ?_
  refine g_nil ?_
  refine g_qt ?_
  refine g_seq ?_
  refine g_region ?_
  refine g_pure (p_assign rfl) rfl ?_
  refine g_pure (p_assign rfl) rfl ?_
  refine g_nil ?_
  refine g_qt ?_
  refine g_seq ?_
  refine g_seq ?_
  refine g_region ?_
  refine g_pure (p_assign rfl) rfl ?_
  refine g_nil ?_
  refine g_qt ?_
  refine g_block ?_
  refine g_ownnil (e := 3) (size := 1) ?_
  refine g_ownnil (e := 3) (size := 1) ?_
  refine g_loop (fun q : Nat × (Option Addr × Nat) × (Option Addr × Nat) => [(0, .int .i64 op), (1, .slice aa args.length ac), (6, .slice q.2.1.1 q.1 q.2.1.2), (7, .slice q.2.2.1 q.1 q.2.2.2), (8, .int .i64 q.1)])
    (fun q => [OwnSl 3 1 q.2.1.1 q.1 q.2.1.2 (((args.take q.1).map List.length).map encN), OwnSl 3 1 q.2.2.1 q.1 q.2.2.2 (((args.take q.1).map sg).map encI)]) (fun q => q.1 ≤ args.length) (fun q => args.length - q.1) (0, (none, 0), (none, 0)) (Nat.zero_le _) (by (repeat (first | exact trivial | refine ⟨by rfl, ?_⟩)); done) (by repeat' (first | exact Cover.nil | exact Take.here | apply Cover.cons | apply Take.there)) ?_
  rintro ⟨k, ⟨wa, wc⟩, va, vc⟩ hk
  dsimp only at hk ⊢
  refine g_seq ?_
  refine g_seq ?_
  refine g_region ?_
  refine g_pure (p_move rfl) rfl ?_
  refine g_pure (p_move rfl) rfl ?_
  refine g_pure (p_len (by rfl) rfl) rfl ?_
  refine g_pure (p_lss rfl rfl) rfl ?_
  refine g_nil ?_
  refine g_qt ?_
  refine g_ifd rfl (fun q => ?_) (fun q => ?_)
  · have hkl : k < args.length := by omega
    obtain ⟨r1, r2, r3⟩ := hrd (by omega)
    obtain ⟨ai, ci, e1, e2⟩ := r3 k hkl
    have hl40 := hl _ (List.getElem_mem hkl)
    refine g_skip ?_
    refine g_qt ?_
    refine g_seq ?_
    refine g_block ?_
    refine g_seq ?_
    refine g_region ?_
    refine g_pure (p_move rfl) rfl ?_
    refine g_pure (p_move rfl) rfl ?_
    refine g_pure (p_move rfl) rfl ?_
    refine g_pure (p_indexAddr rfl rfl (by omega) (fun _ => r1)) rfl ?_
    refine g_pure (p_load (by rfl) rfl (Has.ro r2) e1) rfl ?_
    refine g_pure (p_len (by rfl) rfl) rfl ?_
    refine g_eff (e_bs (xs := [.tmp 23]) rfl rfl rfl (by rfl) (by rfl) rfl (by rfl)) rfl (fun _ _ => ?_)
    rintro ⟨b24, rfl, rfl⟩
    refine g_eff (e_appendO (xs := ((args.take k).map List.length).map encN) (a1 := wa) (by rfl) (by rfl) rfl rfl (by first | (apply Has.own; (repeat' (first | exact Take.here | apply Take.there)); done)) (by rfl) (by rfl) (by repeat' (first | exact Take.here | apply Take.there)) (by omega) (by dsimp only; omega) (by omega)) rfl (fun _ _ => ?_)
    rintro ⟨a25, c25, rfl, rfl⟩
    refine g_pure (p_assign rfl) rfl ?_
    refine g_nil ?_
    refine g_qt ?_
    refine g_region ?_
    refine g_pure (p_move rfl) rfl ?_
    refine g_pure (p_move rfl) rfl ?_
    refine g_pure (p_move rfl) rfl ?_
    refine g_pure (p_indexAddr rfl rfl (by omega) (fun _ => r1)) rfl ?_
    refine g_pure (p_load (by rfl) rfl (Has.ro r2) e1) rfl ?_
    refine g_call (Hin := []) (Hr := ?hr1) (R := ?rr1) rfl rfl rfl ?hin1 ?hc1 ?hk1
    case hin1 => repeat' (first | exact Cover.nil | exact Take.here | apply Cover.cons | apply Take.there)
    case hc1 => intro ρ' hρ hR; exact number_ok (e2.mono hρ) hl40
    rintro _ _ ⟨rfl, rfl⟩
    refine g_eff (e_bs (xs := [.tmp 31]) rfl rfl rfl (by rfl) (by rfl) rfl (by rfl)) rfl (fun _ _ => ?_)
    rintro ⟨b32, rfl, rfl⟩
    refine g_eff (e_appendO (xs := ((args.take k).map sg).map encI) (a1 := va) (by rfl) (by rfl) rfl rfl (by first | (apply Has.own; (repeat' (first | exact Take.here | apply Take.there)); done)) (by rfl) (by rfl) (by repeat' (first | exact Take.here | apply Take.there)) (by omega) (by dsimp only; omega) (by omega)) rfl (fun _ _ => ?_)
    rintro ⟨a33, c33, rfl, rfl⟩
    refine g_pure (p_assign rfl) rfl ?_
    refine g_nil ?_
    refine g_qb ?_
    refine g_qt ?_
    refine g_region ?_
    refine g_pure (p_move rfl) rfl ?_
    first | refine g_pure (p_addi rfl rfl (by omega)) rfl ?_ | refine g_pure (p_add rfl rfl) rfl ?_
    refine g_pure (p_assign rfl) rfl ?_
    refine g_nil ?_
    refine g_qn ?_
    have e3 : ((args.take k).map List.length).map encN ++ [Value.int .i64 (args[k].length : Nat)] = ((args.take (k + 1)).map List.length).map encN := by
      rw [← take_map_succ List.length hkl, List.map_append]; rfl
    have e4 : ((args.take k).map sg).map encI ++ [Value.int .i64 (sg args[k])] = ((args.take (k + 1)).map sg).map encI := by
      rw [← take_map_succ sg hkl, List.map_append]; rfl
    rw [e3, e4]
    exact g_next (k + 1, (a25, c25), (a33, c33)) (by (repeat (first | exact trivial | refine ⟨by rfl, ?_⟩)); done) (by repeat' (first | exact Cover.nil | exact Take.here | apply Cover.cons | apply Take.there)) (by dsimp only; omega) (by dsimp only; omega)
  · have hke : k = args.length := by omega
    subst hke
    rw [List.take_of_length_le (Nat.le_refl _)]
    have hwl : args.length = (args.map List.length).length := (List.length_map _).symm
    have hvl : args.length = (args.map sg).length := (List.length_map _).symm
    refine g_exit ?_
    refine g_qt_exit ?_
    refine g_qn_exit ?_
    refine g_qb_exit ?_
    refine g_qt ?_
    refine g_seq ?_
    refine g_region ?_
    refine g_pure (p_move rfl) rfl ?_
    refine g_pure (p_move rfl) rfl ?_
    refine g_call (Hin := []) (Hr := ?hr2) (R := ?rr2) rfl rfl rfl ?hin2 ?hc2 ?hk2
    case hin2 => repeat' (first | exact Cover.nil | exact Take.here | apply Cover.cons | apply Take.there)
    case hc2 => intro ρ' hρ hR; exact (by have := form_ok (ρ := ρ') (wc := wc) op (by have := RSl.of_own (Take.ro (A := OwnSl 3 1 wa args.length wc ((args.map List.length).map encN)) (by repeat' (first | exact Take.here | apply Take.there)) hR); rw [hwl] at this; exact this) (by rw [← hwl]; omega) (getD_len hl); rw [← hwl] at this; exact this)
    rintro _ _ ⟨rfl, rfl⟩
    refine g_pure (p_move rfl) rfl ?_
    refine g_pure (p_extract rfl rfl) rfl ?_
    refine g_pure (p_extract rfl rfl) rfl ?_
    refine g_pure (p_assign rfl) rfl ?_
    refine g_pure (p_assign rfl) rfl ?_
    refine g_nil ?_
    refine g_qt ?_
    refine g_seq ?_
    refine g_seq ?_
    refine g_region ?_
    refine g_pure (p_move rfl) rfl ?_
    refine g_pure (p_neq rfl rfl) rfl ?_
    refine g_nil ?_
    refine g_qt ?_
    by_cases h0 : (formF op (args.map List.length)).2 = 0
    · have hd : dF op args = (bitsR (outF op) (opF op (sg (args.headD [])) (sg (args.getLastD []))), 0) := by unfold dF; rw [if_pos h0]
      have hw : (formF op (args.map List.length)).1 = outF op := (form_ok0 h0).2.2.1
      have ho : outF op ≤ 16 := by unfold outF; split <;> omega
      have hap := form_apply h0
      have hin := opF_in op (sg (args.headD [])) (sg (args.getLastD []))
      rw [h0, hw]
      refine g_iff rfl ?_
      refine g_skip ?_
      refine g_qt ?_
      refine g_seq ?_
      refine g_region ?_
      refine g_pure (p_move rfl) rfl ?_
      refine g_pure (p_move rfl) rfl ?_
      refine g_call (Hin := []) (Hr := ?hr3) (R := ?rr3) rfl rfl rfl ?hin3 ?hc3 ?hk3
      case hin3 => repeat' (first | exact Cover.nil | exact Take.here | apply Cover.cons | apply Take.there)
      case hc3 => intro ρ' hρ hR; exact (by have := Go.Proofs.Ytkebblmmgcgjkaa.dapply_ok (ρ := ρ') (ac := vc) op (by have := RSl.of_own (Take.ro (A := OwnSl 3 1 va args.length vc ((args.map sg).map encI)) (by repeat' (first | exact Take.here | apply Take.there)) hR); rw [hvl] at this; exact this) (by rw [← hvl]; omega); rw [← hvl, hap] at this; exact this)
      rintro _ _ ⟨rfl, rfl⟩
      refine g_pure (p_move rfl) rfl ?_
      refine g_pure (p_extract rfl rfl) rfl ?_
      refine g_pure (p_extract rfl rfl) rfl ?_
      refine g_pure (p_assign rfl) rfl ?_
      refine g_pure (p_assign rfl) rfl ?_
      refine g_nil ?_
      refine g_qt ?_
      refine g_seq ?_
      refine g_region ?_
      refine g_pure (p_move rfl) rfl ?_
      refine g_pure (p_move rfl) rfl ?_
      refine g_call (Hin := []) (Hr := ?hr4) (R := ?rr4) rfl rfl rfl ?hin4 ?hc4 ?hk4
      case hin4 => repeat' (first | exact Cover.nil | exact Take.here | apply Cover.cons | apply Take.there)
      case hc4 => intro ρ' hρ hR; exact dbits_ok (opF op (sg (args.headD [])) (sg (args.getLastD []))) (by unfold I64; omega) (outF op) (by omega)
      rintro _ _ ⟨oa, oc, rfl, rfl⟩
      refine g_pure (p_move rfl) rfl ?_
      refine g_pure (p_assign rfl) rfl ?_
      refine g_pure (p_assign rfl) rfl ?_
      refine g_nil ?_
      refine g_qt ?_
      refine g_ret ?_
      exact g_post (Ho := [OwnSl 4 1 oa (outF op) oc ((bitsR (outF op) (opF op (sg (args.headD [])) (sg (args.getLastD [])))).map encB)]) (rs := [.tmp 4, .tmp 5]) rfl (.tmp rfl (.tmp rfl .nil)) ⟨oa, oc, by rw [hd, bitsR_len]; rfl, by rw [hd, bitsR_len]⟩ (by repeat' (first | exact Cover.nil | exact Take.here | apply Cover.cons | apply Take.there))
    · have hd : dF op args = ([], (formF op (args.map List.length)).2) := by unfold dF; rw [if_neg h0]
      refine g_ifnd rfl (fun h1 => ?_) (fun h1 => ?_)
      · refine g_seq ?_
        refine g_region ?_
        refine g_pure (p_move rfl) rfl ?_
        refine g_pure (p_assign rfl) rfl ?_
        refine g_pure (p_assign rfl) rfl ?_
        refine g_nil ?_
        refine g_qt ?_
        refine g_ret ?_
        refine g_qt_ret ?_
        refine g_ownnil (e := 4) (size := 1) ?_
        exact g_post (rs := [.tmp 4, .tmp 5]) rfl (.tmp rfl (.tmp rfl .nil)) ⟨none, 0, by rw [hd]; rfl, by rw [hd]⟩ (by repeat' (first | exact Cover.nil | exact Take.here | apply Cover.cons | apply Take.there))
      · exact absurd h1 h0

theorem few_ok {ρ : Nat → Obj → Prop} {ea : Option Addr} {ec : Nat} {es : List En} (h : EnR ρ ea es) (hl : es.length ≤ maxLen) : Con Try.prog ρ 19 #[.slice ea es.length ec] [] (fun v H => (∃ b, v = .bool b) ∧ H = []) := by
  obtain ⟨⟨_, bl, ol, kl, Tl, fl, hk⟩, he⟩ := h
  have eM : maxLen = 9223372036854775807 := rfl
  refine con_intro Try.func19 Try.call19 rfl Try.ntmps19 rfl (L := [(0, _)]) rfl fun w hh => ?_
  refine g_seq ?_
  refine g_region ?_
  refine g_pure (p_assign rfl) rfl ?_
  refine g_nil ?_
  refine g_qt ?_
  refine g_seq ?_
  refine g_seq ?_
  refine g_region ?_
  refine g_pure (p_move rfl) rfl ?_
  refine g_pure (p_len (by rfl) rfl) rfl ?_
  refine g_pure (p_gtr rfl rfl) rfl ?_
  refine g_nil ?_
  refine g_qt ?_
  refine g_ifd rfl (fun a1 => ?_) (fun a1 => ?_)
  · refine g_seq ?_
    refine g_region ?_
    refine g_pure (p_assign rfl) rfl ?_
    refine g_nil ?_
    refine g_qt ?_
    refine g_ret ?_
    refine g_qt_ret ?_
    exact g_post (Ho := []) (rs := [.tmp 2]) rfl (.tmp rfl .nil) ⟨⟨_, rfl⟩, rfl⟩ .nil
  · refine g_skip ?_
    refine g_qt ?_
    refine g_seq ?_
    refine g_seq ?_
    refine g_region ?_
    refine g_pure (p_assign rfl) rfl ?_
    refine g_nil ?_
    refine g_qt ?_
    refine g_block ?_
    refine g_loop (fun k : Nat => [(0, .slice ea es.length ec), (3, .int .i64 k)]) (fun _ => []) (fun k => k ≤ es.length) (fun k => es.length - k) 0 (Nat.zero_le _) (by (repeat (first | exact trivial | refine ⟨by rfl, ?_⟩)); done) .nil ?_
    rintro k hk1
    refine g_seq ?_
    refine g_seq ?_
    refine g_region ?_
    refine g_pure (p_move rfl) rfl ?_
    refine g_pure (p_move rfl) rfl ?_
    refine g_pure (p_len (by rfl) rfl) rfl ?_
    refine g_pure (p_lss rfl rfl) rfl ?_
    refine g_nil ?_
    refine g_qt ?_
    refine g_ifd rfl (fun q => ?_) (fun q => ?_)
    · have hkl : k < es.length := by omega
      obtain ⟨l1, l2, l3⟩ := hk (by omega)
      obtain ⟨_, _, x0⟩ := en_at l3 hkl
      refine g_skip ?_
      refine g_qt ?_
      refine g_seq ?_
      refine g_block ?_
      refine g_seq ?_
      refine g_region ?_
      refine g_pure (p_move rfl) rfl ?_
      refine g_pure (p_move rfl) rfl ?_
      refine g_pure (p_indexAddr rfl rfl (by omega) (fun _ => l1)) rfl ?_
      refine g_pure (p_fieldAddr rfl) rfl ?_
      refine g_pure (p_load (by rfl) rfl (Has.ro l2) x0) rfl ?_
      refine g_pure (p_len (by rfl) rfl) rfl ?_
      refine g_pure (p_gtr rfl rfl) rfl ?_
      refine g_nil ?_
      refine g_qt ?_
      refine g_ifd rfl (fun q2 => ?_) (fun q2 => ?_)
      · refine g_seq ?_
        refine g_region ?_
        refine g_pure (p_assign rfl) rfl ?_
        refine g_nil ?_
        refine g_qt ?_
        refine g_ret ?_
        refine g_qb_ret ?_
        refine g_qt_ret ?_
        refine g_qn_ret ?_
        refine g_qb_ret ?_
        refine g_qt_ret ?_
        exact g_post (Ho := []) (rs := [.tmp 2]) rfl (.tmp rfl .nil) ⟨⟨_, rfl⟩, rfl⟩ .nil
      · refine g_skip ?_
        refine g_qb ?_
        refine g_qt ?_
        refine g_region ?_
        refine g_pure (p_move rfl) rfl ?_
        first | refine g_pure (p_addi rfl rfl (by omega)) rfl ?_ | refine g_pure (p_add rfl rfl) rfl ?_
        refine g_pure (p_assign rfl) rfl ?_
        refine g_nil ?_
        refine g_qn ?_
        exact g_next (k + 1) (by (repeat (first | exact trivial | refine ⟨by rfl, ?_⟩)); done) .nil (by omega) (by omega)
    · refine g_exit ?_
      refine g_qt_exit ?_
      refine g_qn_exit ?_
      refine g_qb_exit ?_
      refine g_qt ?_
      refine g_seq ?_
      refine g_region ?_
      refine g_pure (p_assign rfl) rfl ?_
      refine g_nil ?_
      refine g_qt ?_
      refine g_ret ?_
      exact g_post (Ho := []) (rs := [.tmp 2]) rfl (.tmp rfl .nil) ⟨⟨_, rfl⟩, rfl⟩ .nil

theorem bools38_ok {ρ : Nat → Obj → Prop} {xa ya : Option Addr} {xc yc : Nat} {xs ys : List Bool} (hx : RSl ρ 1 xa xs.length (xs.map encB)) (hy : RSl ρ 1 ya ys.length (ys.map encB)) (hn : xs.length ≤ 1000000) (he : xs = ys) :
    Con Try.prog ρ 31 #[.slice xa xs.length xc, .slice ya ys.length yc] [] (fun v H => v = .bool true ∧ H = []) := by
  subst he
  obtain ⟨b1, o1, cs1, T1, fz1, hr⟩ := brd hx
  obtain ⟨b2, o2, cs2, T2, fz2, hr2⟩ := brd hy
  refine con_intro Try.func31 Try.call31 rfl Try.ntmps31 rfl (L := [(0, _), (1, _)]) rfl fun w hh => ?_
  refine g_seq ?_
  refine g_region ?_
  refine g_pure (p_assign rfl) rfl ?_
  refine g_nil ?_
  refine g_qt ?_
  refine g_seq ?_
  refine g_seq ?_
  refine g_region ?_
  refine g_pure (p_move rfl) rfl ?_
  refine g_pure (p_len (by rfl) rfl) rfl ?_
  refine g_pure (p_move rfl) rfl ?_
  refine g_pure (p_len (by rfl) rfl) rfl ?_
  refine g_pure (p_neqF rfl rfl rfl) rfl ?_
  refine g_nil ?_
  refine g_qt ?_
  refine g_iff rfl ?_
  refine g_skip ?_
  refine g_qt ?_
  refine g_seq ?_
  refine g_seq ?_
  refine g_region ?_
  refine g_pure (p_assign rfl) rfl ?_
  refine g_nil ?_
  refine g_qt ?_
  refine g_block ?_
  refine g_loop (fun k : Nat => [(0, .slice xa xs.length xc), (1, .slice ya xs.length yc), (5, .int .i64 k)]) (fun _ => []) (fun k => k ≤ xs.length) (fun k => xs.length - k) 0 (Nat.zero_le _) (by (repeat (first | exact trivial | refine ⟨by rfl, ?_⟩)); done) .nil ?_
  rintro k hk1
  refine g_seq ?_
  refine g_seq ?_
  refine g_region ?_
  refine g_pure (p_move rfl) rfl ?_
  refine g_pure (p_move rfl) rfl ?_
  refine g_pure (p_len (by rfl) rfl) rfl ?_
  refine g_pure (p_lss rfl rfl) rfl ?_
  refine g_nil ?_
  refine g_qt ?_
  refine g_ifd rfl (fun q => ?_) (fun q => ?_)
  · have hkl : k < xs.length := by omega
    obtain ⟨r1, r2, r3⟩ := hr (by omega)
    obtain ⟨s1, s2, s3⟩ := hr2 (by omega)
    refine g_skip ?_
    refine g_qt ?_
    refine g_seq ?_
    refine g_block ?_
    refine g_seq ?_
    refine m_begin0 (.fl 0 0 (.fl 1 0 (.fl 2 0 (.fl 3 1 (.fl 4 0 (.fl 5 0 (.fl 6 0 (.fl 7 1 (.fl 8 0 .done))))))))) (by kernel_rfl) (by kernel_rfl) ?_
    refine m_float0 rfl (fun _ _ => p_move rfl) rfl ?_
    refine m_float0 rfl (fun _ _ => p_move rfl) rfl ?_
    refine m_float0 rfl (fun _ _ => p_indexAddr rfl rfl (by omega) (fun _ => r1)) rfl ?_
    refine m_float rfl (p_load (by rfl) rfl (Has.ro r2) (r3 k hkl)) rfl ?_
    refine m_float0 rfl (fun _ _ => p_move rfl) rfl ?_
    refine m_float0 rfl (fun _ _ => p_move rfl) rfl ?_
    refine m_float0 rfl (fun _ _ => p_indexAddr rfl rfl (by omega) (fun _ => s1)) rfl ?_
    refine m_float rfl (p_load (by rfl) rfl (Has.ro s2) (s3 k hkl)) rfl ?_
    refine m_float0 rfl (fun _ _ => p_neqbF (by rfl) rfl rfl rfl) rfl ?_
    refine m_nil ?_
    refine g_qt ?_
    refine g_iff rfl ?_
    refine g_skip ?_
    refine g_qb ?_
    refine g_qt ?_
    refine g_region ?_
    refine g_pure (p_move rfl) rfl ?_
    first | refine g_pure (p_addi rfl rfl (by omega)) rfl ?_ | refine g_pure (p_add rfl rfl) rfl ?_
    refine g_pure (p_assign rfl) rfl ?_
    refine g_nil ?_
    refine g_qn ?_
    exact g_next (k + 1) (by (repeat (first | exact trivial | refine ⟨by rfl, ?_⟩)); done) .nil (by omega) (by omega)
  · refine g_exit ?_
    refine g_qt_exit ?_
    refine g_qn_exit ?_
    refine g_qb_exit ?_
    refine g_qt ?_
    refine g_seq ?_
    refine g_region ?_
    refine g_pure (p_assign rfl) rfl ?_
    refine g_nil ?_
    refine g_qt ?_
    refine g_ret ?_
    exact g_post (Ho := []) (rs := [.tmp 4]) rfl (.tmp rfl .nil) ⟨rfl, rfl⟩ .nil

theorem inputs38_ok {ρ : Nat → Obj → Prop} (m : Nat) (hm : m ≤ 500) : Con Try.prog ρ 27 #[.int .i64 m] [] (fun v H => ∃ p a c, v = .tuple #[.pointer (some ⟨p, 0, none⟩), .slice a m c] ∧ H = [Gr p (S0 m), OwnSl 27 1 a m c ((inL m).map encI)]) := by
  refine con_intro Try.func27 Try.call27 rfl Try.ntmps27 rfl (L := [(0, _)]) rfl fun w hh => ?_
  refine g_seq ?_
  refine g_region ?_
  refine g_pure (p_assign rfl) rfl ?_
  refine g_pure (p_assign rfl) rfl ?_
  refine g_nil ?_
  refine g_qt ?_
  refine g_seq ?_
  refine g_region ?_
  refine g_call (Hin := []) (Hr := ?hr5) (R := ?rr5) rfl rfl rfl ?hin5 ?hc5 ?hk5
  case hin5 => repeat' (first | exact Cover.nil | exact Take.here | apply Cover.cons | apply Take.there)
  case hc5 => intro ρ' hρ hR; exact new_ok
  rintro _ _ ⟨p, rfl, rfl⟩
  refine g_pure (p_assign rfl) rfl ?_
  refine g_nil ?_
  refine g_qt ?_
  refine g_seq ?_
  refine g_region ?_
  refine g_pure (p_assign rfl) rfl ?_
  refine g_nil ?_
  refine g_qt ?_
  refine g_seq ?_
  refine g_seq ?_
  refine g_region ?_
  refine g_pure (p_assign rfl) rfl ?_
  refine g_nil ?_
  refine g_qt ?_
  refine g_block ?_
  refine g_ownnil (e := 27) (size := 1) ?_
  refine g_loop (fun q : Nat × Option Addr × Nat => [(0, .int .i64 m), (4, .pointer (some ⟨p, 0, none⟩)), (5, .slice q.2.1 q.1 q.2.2), (6, .int .i64 q.1)])
    (fun q => [OwnSl 27 1 q.2.1 q.1 q.2.2 ((inL q.1).map encI), Gr p (S0 q.1)]) (fun q => q.1 ≤ m) (fun q => m - q.1) (0, none, 0) (Nat.zero_le _) (by (repeat (first | exact trivial | refine ⟨by rfl, ?_⟩)); done) (by repeat' (first | exact Cover.nil | exact Take.here | apply Cover.cons | apply Take.there)) ?_
  rintro ⟨k, oa, oc⟩ hk
  dsimp only at hk ⊢
  refine g_seq ?_
  refine g_seq ?_
  refine g_region ?_
  refine g_pure (p_move rfl) rfl ?_
  refine g_pure (p_move rfl) rfl ?_
  refine g_pure (p_lss rfl rfl) rfl ?_
  refine g_pure (p_move rfl) rfl ?_
  refine g_splitd rfl rfl (fun q => ?_) (fun q => ?_)
  · have e1 : input1 (S0 k) = (2 * ((k : Int) + 1), 0, S0 (k + 1)) := by
      unfold input1 Aig.add
      rw [if_neg (by rw [S0_len]; omega), S0_succ, S0_len]; rfl
    have e3 : (inL (k + 1)).map encI = (inL k).map encI ++ [.int .i64 (2 * ((k : Int) + 1))] := by
      unfold inL; rw [List.range_succ, List.map_append, List.map_append]; rfl
    refine g_yes rfl rfl ?_
    refine g_pure (p_move rfl) rfl ?_
    refine g_yes rfl rfl ?_
    refine g_pure (p_nenil (by rfl) rfl rfl) rfl ?_
    first | refine g_pure (p_pickt rfl rfl) rfl ?_ | refine g_pure (p_pickf rfl rfl) rfl ?_
    refine g_nil ?_
    refine g_qt ?_
    refine g_ift rfl ?_
    refine g_skip ?_
    refine g_qt ?_
    refine g_seq ?_
    refine g_block ?_
    refine g_seq ?_
    refine g_region ?_
    refine g_pure (p_move rfl) rfl ?_
    refine g_call (Hin := ?hi6) (Hr := ?hr6) (R := ?rr6) rfl rfl rfl ?hin6 ?hc6 ?hk6
    case hc6 => intro ρ' hρ hR; exact input_at e1
    case hin6 => repeat' (first | exact Cover.nil | exact Take.here | apply Cover.cons | apply Take.there)
    rintro _ _ ⟨rfl, rfl⟩
    refine g_pure (p_move rfl) rfl ?_
    refine g_pure (p_extract rfl rfl) rfl ?_
    refine g_pure (p_extract rfl rfl) rfl ?_
    refine g_pure (p_assign rfl) rfl ?_
    refine g_pure (p_assign rfl) rfl ?_
    refine g_nil ?_
    refine g_qt ?_
    refine g_seq ?_
    refine g_seq ?_
    refine g_region ?_
    refine g_pure (p_move rfl) rfl ?_
    refine g_pure (p_neq rfl rfl) rfl ?_
    refine g_nil ?_
    refine g_qt ?_
    refine g_iff rfl ?_
    refine g_skip ?_
    refine g_qt ?_
    refine g_region ?_
    refine g_pure (p_move rfl) rfl ?_
    refine g_pure (p_move rfl) rfl ?_
    refine g_eff (e_bs (xs := [.tmp 27]) rfl rfl rfl (by rfl) (by rfl) rfl (by rfl)) rfl (fun _ _ => ?_)
    rintro ⟨b28, rfl, rfl⟩
    refine g_eff (e_appendO (by rfl) (by rfl) rfl rfl (by first | (apply Has.own; (repeat' (first | exact Take.here | apply Take.there)); done) | exact Has.ro (by assumption)) (by rfl) (by rfl) (by repeat' (first | exact Take.here | apply Take.there)) (by omega) (by first | omega | (dsimp only; omega) | (simp <;> omega)) (by omega)) rfl (fun _ _ => ?_)
    rintro ⟨a29, c29, rfl, rfl⟩
    refine g_pure (p_assign rfl) rfl ?_
    refine g_nil ?_
    refine g_qb ?_
    refine g_qt ?_
    refine g_region ?_
    refine g_pure (p_move rfl) rfl ?_
    first | refine g_pure (p_addi rfl rfl (by omega)) rfl ?_ | refine g_pure (p_add rfl rfl) rfl ?_
    refine g_pure (p_assign rfl) rfl ?_
    refine g_nil ?_
    refine g_qn ?_
    rw [← e3]
    exact g_next (k + 1, a29, c29) (by (repeat (first | exact trivial | refine ⟨by rfl, ?_⟩)); done) (by repeat' (first | exact Cover.nil | exact Take.here | apply Cover.cons | apply Take.there)) (by dsimp only; omega) (by dsimp only; omega)
  · have hkm : k = m := by omega
    subst hkm
    refine g_no rfl rfl rfl rfl ?_
    refine g_no rfl rfl rfl rfl ?_
    first | refine g_pure (p_pickt rfl rfl) rfl ?_ | refine g_pure (p_pickf rfl rfl) rfl ?_
    refine g_nil ?_
    refine g_qt ?_
    refine g_iff rfl ?_
    refine g_exit ?_
    refine g_qt_exit ?_
    refine g_qn_exit ?_
    refine g_qb_exit ?_
    refine g_qt ?_
    refine g_seq ?_
    refine g_region ?_
    refine g_pure (p_move rfl) rfl ?_
    refine g_pure (p_move rfl) rfl ?_
    refine g_pure (p_assign rfl) rfl ?_
    refine g_pure (p_assign rfl) rfl ?_
    refine g_nil ?_
    refine g_qt ?_
    refine g_ret ?_
    exact g_post (rs := [.tmp 2, .tmp 3]) rfl (.tmp rfl (.tmp rfl .nil)) ⟨p, oa, oc, rfl, rfl⟩ (by repeat' (first | exact Cover.nil | exact Take.here | apply Cover.cons | apply Take.there))
end Go.Proofs.Ytkebblmmgcgjkaa
/- Chapter 38: the small case of the statements. Conditions: none. -/
namespace Go.Z
set_option maxRecDepth 8000
set_option linter.unusedVariables false
set_option linter.unusedSimpArgs false
set_option linter.unusedSectionVars false
open Go
theorem rsl2_of {ρ : Nat → Obj → Prop} {rows : List (List Value)} {cells : List Value} {b : Nat} {T : TypeId} {fz : Nat × Nat} (hb : ρ b (.cells cells.toArray T fz)) (hlen : cells.length = rows.length) (h : ∀ j (hj : j < rows.length), ∃ a c, cells[j]? = some (.slice a rows[j].length c) ∧ RSl ρ 1 a rows[j].length rows[j]) : RSl2 ρ (some ⟨b, 0, none⟩) rows :=
  ⟨cells, ⟨hlen, h⟩, by rw [Nat.mul_one]; exact hlen, b, 0, cells, T, fz, fun _ => ⟨rfl, hb, fun j v hj => by rw [Nat.zero_add]; exact hj⟩⟩
theorem rsl_pre {ρ : Nat → Obj → Prop} {a : Option Addr} {n m : Nat} {xs : List Value} (h : RSl ρ 1 a n xs) (hm : m ≤ n) : RSl ρ 1 a m (xs.take m) := by
  obtain ⟨h1, b, off, cs, T, fz, h2⟩ := h
  refine ⟨by rw [List.length_take]; omega, b, off, cs, T, fz, fun h0 => ?_⟩
  obtain ⟨k1, k2, k3⟩ := h2 (by omega)
  refine ⟨k1, k2, fun j v hj => k3 j v ?_⟩
  rw [List.getElem?_take] at hj
  split at hj
  · exact hj
  · cases hj
end Go.Z
namespace Go.Proofs.Ytkebblmmgcgjkaa
set_option maxRecDepth 8000
set_option linter.unusedVariables false
set_option linter.unusedSimpArgs false
set_option linter.unusedSectionVars false
open Go Go.Z Go.Z.Val Go.Z.Aig Go.Z.Bit

theorem two_rows {ρ : Nat → Obj → Prop} {a1 a2 : Option Addr} {c1 c2 : Nat} {l1 l2 : List Int} {n1 n2 : Nat} {b : Nat} (h1 : l1.length = n1) (h2 : l2.length = n2) (hb : ρ b (.cells [.slice a1 n1 c1, .slice a2 n2 c2].toArray 26 (0, 0))) (r1 : RSl ρ 1 a1 n1 (l1.map encI)) (r2 : RSl ρ 1 a2 n2 (l2.map encI)) : RSl2 ρ (some ⟨b, 0, none⟩) ([l1, l2].map (·.map encI)) := by
  subst h1 h2
  refine rsl2_of hb rfl fun j hj => ?_
  have hj2 : j < 2 := hj
  match j, hj2 with
  | 0, _ => exact ⟨a1, c1, by simp, by simpa using r1⟩
  | 1, _ => exact ⟨a2, c2, by simp, by simpa using r2⟩
theorem bapply_yes {ρ : Nat → Obj → Prop} (p : Nat) {S : St} {al : Option Addr} {cl : Nat} (op : Int) (hw : WF S) (hl : S.length ≤ 100000) {lss : List (List Int)} (hr : RSl2 ρ al (lss.map (·.map encI))) (h9 : lss.length ≤ 1000) (h3' : ∀ l ∈ lss, l.length ≤ 1000000000) (hb : ∀ l ∈ lss.flatten, has S l) (hy : applyE op lss = 0) :
    Con Try.prog ρ 29 #[.pointer (some ⟨p, 0, none⟩), .int .i64 op, .slice al lss.length cl] [Gr p S]
    (fun v H => ∃ a2 c2 out T, v = .tuple #[.slice a2 out.length c2, .int .i64 0] ∧ H = [OwnSl 27 1 a2 out.length c2 (out.map encI), Gr p T] ∧ Up S T 5000 ∧ DenL T out (fun i => operateF op ((lss.headD []).map (litv (vals S i))) ((lss.getLastD []).map (litv (vals S i))))) :=
  (bapply_ok p op hw hl hr h9 h3' hb).mono fun v H h => by
    rcases h with ⟨h, _⟩ | ⟨_, h⟩
    · exact absurd hy h
    · exact h
theorem bapply_no {ρ : Nat → Obj → Prop} (p : Nat) {S : St} {al : Option Addr} {cl : Nat} (op : Int) (hw : WF S) (hl : S.length ≤ 100000) {lss : List (List Int)} (hr : RSl2 ρ al (lss.map (·.map encI))) (h9 : lss.length ≤ 1000) (h3' : ∀ l ∈ lss, l.length ≤ 1000000000) (hb : ∀ l ∈ lss.flatten, has S l) (hy : applyE op lss ≠ 0) :
    Con Try.prog ρ 29 #[.pointer (some ⟨p, 0, none⟩), .int .i64 op, .slice al lss.length cl] [Gr p S]
    (fun v H => v = .tuple #[.slice none 0 0, .int .i64 (applyE op lss)] ∧ H = [Gr p S]) :=
  (bapply_ok p op hw hl hr h9 h3' hb).mono fun v H h => by
    rcases h with ⟨_, h⟩ | ⟨h, _⟩
    · exact h
    · exact absurd h hy
theorem apply_two {ρ : Nat → Obj → Prop} (p : Nat) {S : St} {al : Option Addr} {cl : Nat} {op : Int} (hw : WF S) (hl : S.length ≤ 100000) {l1 l2 : List Int} {f g : List Bool → List Bool} (d1 : DenL S l1 f) (d2 : DenL S l2 g) (h16 : l1.length = 16 ∧ l2.length = 16) (hop : 6 ≤ op ∧ op ≤ 16) (hr : RSl2 ρ al ([l1, l2].map (·.map encI))) {m : Nat} (hm : m = outF op) :
    Con Try.prog ρ 29 #[.pointer (some ⟨p, 0, none⟩), .int .i64 op, .slice al 2 cl] [Gr p S]
    (fun v H => ∃ a2 c2 out T, v = .tuple #[.slice a2 m c2, .int .i64 0] ∧ H = [OwnSl 27 1 a2 m c2 (out.map encI), Gr p T] ∧ out.length = m ∧ Up S T 5000 ∧ DenL T out (fun i => operateF op (f i) (g i))) := by
  have hb : ∀ l ∈ [l1, l2].flatten, has S l := fun l hl => by
    simp at hl
    rcases hl with h | h
    · exact d1.1 l h
    · exact d2.1 l h
  have hf : formF op ([l1, l2].map List.length) = (((outF op : Nat) : Int), 0) := by
    have e : [l1, l2].map List.length = [16, 16] := by simp [h16]
    rw [e]
    rcases (show op = 6 ∨ op = 7 ∨ op = 8 ∨ op = 9 ∨ op = 10 ∨ op = 11 ∨ op = 12 ∨ op = 13 ∨ op = 14 ∨ op = 15 ∨ op = 16 by omega) with rfl | rfl | rfl | rfl | rfl | rfl | rfl | rfl | rfl | rfl | rfl <;> rfl
  refine (bapply_yes (cl := cl) p op hw hl hr (by simp) (by simp; omega) hb (by rw [apply_form, hf])).mono ?_
  rintro _ _ ⟨a2, c2, out, T, rfl, rfl, u, d⟩
  have d' : DenL T out (fun i => operateF op (f i) (g i)) := d.congr fun i => by
    show operateF op (l1.map (litv (vals S i))) (l2.map (litv (vals S i))) = _
    rw [d1.2 i, d2.2 i]
  have hlen : out.length = m := by
    have h := d'.len []
    rw [← h, hm, operate_law (by omega) (by rw [d1.len, h16.1]; unfold widthF; rw [if_neg (by omega)]; split <;> rfl) (by rw [d1.len, d2.len]; omega) (fun h => absurd h (by omega)), bitsR_len]
  exact ⟨a2, c2, out, T, by rw [hlen], by rw [hlen], hlen, u, d'⟩

theorem enr_nil {ρ : Nat → Obj → Prop} : EnR ρ none [] := ⟨RSl.nil, fun e he => absurd he List.not_mem_nil⟩
theorem cst_ok {ρ : Nat → Obj → Prop} (v : Int) (hv : -32768 ≤ v ∧ v ≤ 32767) : Con Try.prog ρ 21 #[.slice none 0 0, .int .i64 2, .int .i64 v] []
    (fun u H => ∃ a c, u = .tuple #[.slice a 16 c, .int .i64 0] ∧ H = [OwnSl 27 1 a 16 c (((bitsR 16 v).map lit1).map encI)]) := by
  have hw : widthN [] 2 = 16 := widthN_16.2 rfl
  have he : constF [] 2 v = (bitsR 16 v, 0) := by
    unfold constF
    rw [hw, if_neg (by decide), if_pos (by unfold tyHas; rw [if_pos rfl]; exact hv)]
  have := const_ok (ρ := ρ) (ec := 0) enr_nil (Nat.zero_le _) 2 v (by unfold I64; omega) (by unfold I64; omega)
  rw [he] at this
  refine this.mono ?_
  rintro _ _ ⟨a, c, rfl, rfl⟩
  exact ⟨a, c, by rw [bitsR_len], by rw [bitsR_len]⟩
theorem val_ok {ρ : Nat → Obj → Prop} {ba : Option Addr} {bc : Nat} {bs : List Bool} (h16 : bs.length = 16) (hb : RSl ρ 1 ba 16 (bs.map encB)) : Con Try.prog ρ 25 #[.slice none 0 0, .int .i64 2, .slice ba 16 bc] []
    (fun u H => u = .tuple #[.int .i64 (sg bs), .int .i64 0] ∧ H = []) := by
  have hw : widthN [] 2 = 16 := widthN_16.2 rfl
  have hs := sg16 h16
  have he : valueF [] 2 bs = (sg bs, 0) := by
    unfold valueF
    rw [hw, if_neg (by decide), if_neg (by omega), if_pos (by unfold tyHas; rw [if_pos rfl]; exact ⟨hs.2.1, hs.2.2.1⟩)]
  have := bvalue_ok (ρ := ρ) (ec := 0) (bc := bc) enr_nil (Nat.zero_le _) 2 (by unfold I64; omega) (by rw [h16]; exact hb) (by omega)
  rw [he, h16] at this
  exact this
def threeE (b : Nat) : List En := [(⟨#[69]⟩, some ⟨b, 0, none⟩, 3, [⟨#[65]⟩, ⟨#[66]⟩, ⟨#[67]⟩])]
theorem three_ok {ρ : Nat → Obj → Prop} : Con Try.prog ρ 54 #[] [] (fun v H => ∃ b b2, v = .slice (some ⟨b, 0, none⟩) 1 1 ∧ H = [Blk b (.cells [.string ⟨#[69]⟩, .slice (some ⟨b2, 0, none⟩) 3 3].toArray 107 (0, 0)), Blk b2 (.cells [.string ⟨#[65]⟩, .string ⟨#[66]⟩, .string ⟨#[67]⟩].toArray 9 (0, 0))]) := by
  refine con_intro Try.func54 Try.call54 rfl Try.ntmps54 rfl (L := []) rfl fun w hh => ?_
  refine g_seq ?_
  refine g_region ?_
  refine g_pure (p_assign rfl) rfl ?_
  refine g_nil ?_
  refine g_qt ?_
  refine g_seq ?_
  refine g_region ?_
  refine g_eff (e_bs (xs := [.const (.string (⟨#[65]⟩)), .const (.string (⟨#[66]⟩)), .const (.string (⟨#[67]⟩))]) rfl rfl rfl (by rfl) (by rfl) rfl (by rfl)) rfl (fun _ _ => ?_)
  rintro ⟨b1, rfl, rfl⟩
  refine g_pure (p_build (by rfl) rfl (by rfl)) rfl ?_
  refine g_eff (e_bs (xs := [.tmp 2]) rfl rfl rfl (by rfl) (by rfl) rfl (by rfl)) rfl (fun _ _ => ?_)
  rintro ⟨b3, rfl, rfl⟩
  refine g_pure (p_assign rfl) rfl ?_
  refine g_nil ?_
  refine g_qt ?_
  refine g_ret ?_
  exact g_post (rs := [.tmp 0]) rfl (.tmp rfl .nil) ⟨_, _, rfl, rfl⟩ (by repeat' (first | exact Cover.nil | exact Take.here | apply Cover.cons | apply Take.there))
theorem three_enr {ρ : Nat → Obj → Prop} {b b2 : Nat} (h1 : ρ b (.cells [.string ⟨#[69]⟩, .slice (some ⟨b2, 0, none⟩) 3 3].toArray 107 (0, 0))) (h2 : ρ b2 (.cells [.string ⟨#[65]⟩, .string ⟨#[66]⟩, .string ⟨#[67]⟩].toArray 9 (0, 0))) : EnR ρ (some ⟨b, 0, none⟩) (threeE b2) := by
  have eM : maxLen = 9223372036854775807 := rfl
  refine ⟨RSl.of_blk (k := 1) (size := 2) h1 (by simp), fun e he => ?_⟩
  rw [List.mem_singleton.1 he]
  refine ⟨RSl.of_blk (k := 3) (size := 1) h2 (by simp), ?_, fun s hs => ?_, ?_⟩
  · show (1 : Nat) ≤ maxLen; omega
  · have hs' : s ∈ ([⟨#[65]⟩, ⟨#[66]⟩, ⟨#[67]⟩] : List ByteArray) := hs
    simp only [List.mem_cons, List.not_mem_nil, or_false] at hs'
    rcases hs' with rfl | rfl | rfl <;> (show (1 : Nat) ≤ maxLen; omega)
  · show (3 : Nat) ≤ maxLen; omega
end Go.Proofs.Ytkebblmmgcgjkaa
/- Chapter 38: the small case of the statements: the walk. Conditions: none. -/
namespace Go.Proofs.Ytkebblmmgcgjkaa
set_option maxRecDepth 8000
set_option linter.unusedVariables false
set_option linter.unusedSimpArgs false
set_option linter.unusedSectionVars false
open Go Go.Z Go.Z.Val Go.Z.Aig Go.Z.Bit

set_option maxHeartbeats 4000000 in
theorem blives_ok {ρ : Nat → Obj → Prop} : Con Try.prog ρ 20 #[] [] (fun v H => v = .bool true ∧ H = []) := by
  have hS : Gr = Gr := rfl
  have l7 : ((bitsR 16 7).map lit1).length = 16 := by rw [List.length_map, bitsR_len]
  have lm : ((bitsR 16 (-2)).map lit1).length = 16 := by rw [List.length_map, bitsR_len]
  have d7 : ∀ {T : St}, WF T → DenL T ((bitsR 16 7).map lit1) (fun _ => bitsR 16 7) := fun h => DenL.const h _
  have dm : ∀ {T : St}, WF T → DenL T ((bitsR 16 (-2)).map lit1) (fun _ => bitsR 16 (-2)) := fun h => DenL.const h _
  refine con_intro Try.func20 Try.call20 rfl Try.ntmps20 rfl (L := []) rfl fun w hh => ?_
  refine g_seq ?_
  refine g_region ?_
  refine g_pure (p_assign rfl) rfl ?_
  refine g_nil ?_
  refine g_qt ?_
  refine g_seq ?_
  refine g_region ?_
  refine g_call (Hin := []) (Hr := ?hr1) (R := ?rr1) rfl rfl rfl ?hin1 ?hc1 ?hk1
  case hin1 => repeat' (first | exact Cover.nil | exact Take.here | apply Cover.cons | apply Take.there)
  case hc1 => intro ρ' hρ hR; exact new_ok
  rintro _ _ ⟨p, rfl, rfl⟩
  refine g_pure (p_assign rfl) rfl ?_
  refine g_nil ?_
  refine g_qt ?_
  refine g_seq ?_
  refine g_seq ?_
  refine g_region ?_
  refine g_pure (p_move rfl) rfl ?_
  refine g_pure (p_eqnil (by rfl) rfl rfl) rfl ?_
  refine g_nil ?_
  refine g_qt ?_
  refine g_iff rfl ?_
  refine g_skip ?_
  refine g_qt ?_
  refine g_seq ?_
  refine g_region ?_
  refine g_call (Hin := []) (Hr := ?hr2) (R := ?rr2) rfl rfl rfl ?hin2 ?hc2 ?hk2
  case hin2 => repeat' (first | exact Cover.nil | exact Take.here | apply Cover.cons | apply Take.there)
  case hc2 => intro ρ' hρ hR; exact cst_ok 7 (by omega)
  rintro _ _ ⟨aa, ac, rfl, rfl⟩
  refine g_pure (p_move rfl) rfl ?_
  refine g_pure (p_extract rfl rfl) rfl ?_
  refine g_pure (p_extract rfl rfl) rfl ?_
  refine g_pure (p_assign rfl) rfl ?_
  refine g_pure (p_assign rfl) rfl ?_
  refine g_nil ?_
  refine g_qt ?_
  refine g_seq ?_
  refine g_region ?_
  refine g_call (Hin := []) (Hr := ?hr3) (R := ?rr3) rfl rfl rfl ?hin3 ?hc3 ?hk3
  case hin3 => repeat' (first | exact Cover.nil | exact Take.here | apply Cover.cons | apply Take.there)
  case hc3 => intro ρ' hρ hR; exact cst_ok (-2) (by omega)
  rintro _ _ ⟨ba, bc, rfl, rfl⟩
  refine g_pure (p_move rfl) rfl ?_
  refine g_pure (p_extract rfl rfl) rfl ?_
  refine g_pure (p_extract rfl rfl) rfl ?_
  refine g_pure (p_assign rfl) rfl ?_
  refine g_pure (p_assign rfl) rfl ?_
  refine g_nil ?_
  refine g_qt ?_
  refine g_seq ?_
  refine g_seq ?_
  refine g_own (e := 27) (a1 := ba) (k := 16) (cap := bc) (xs := ((bitsR 16 (-2)).map lit1).map encI) (by repeat' (first | exact Take.here | apply Take.there)) (fun _ h2 _ _ => absurd h2 (by omega)) ?_
  rintro gb curb rfl b1 b2 b3 b4 b5
  have c0 : curb[0 + (0 : Int).toNat * 1]? = some (.int .i64 0) := own_at (k := 0) b4 rfl rfl
  have c1 : curb[0 + (1 : Int).toNat * 1]? = some (.int .i64 1) := own_at (k := 1) b4 rfl rfl
  have c15 : curb[0 + (15 : Int).toNat * 1]? = some (.int .i64 1) := own_at (k := 15) b4 rfl rfl
  refine g_region ?_
  refine g_pure (p_move rfl) rfl ?_
  refine g_pure (p_neqF rfl rfl rfl) rfl ?_
  refine g_pure (p_move rfl) rfl ?_
  refine g_yes rfl rfl ?_
  refine g_pure (p_move rfl) rfl ?_
  refine g_yes rfl rfl ?_
  refine g_pure (p_neqF rfl rfl rfl) rfl ?_
  first | refine g_pure (p_pickt rfl rfl) rfl ?_ | refine g_pure (p_pickf rfl rfl) rfl ?_
  refine g_pure (p_move rfl) rfl ?_
  refine g_yes rfl rfl ?_
  refine g_pure (p_move rfl) rfl ?_
  refine g_yes rfl rfl ?_
  refine g_pure (p_len (by rfl) rfl) rfl ?_
  refine g_yes rfl rfl ?_
  refine g_pure (p_neqF rfl rfl rfl) rfl ?_
  first | refine g_pure (p_pickt rfl rfl) rfl ?_ | refine g_pure (p_pickf rfl rfl) rfl ?_
  refine g_pure (p_move rfl) rfl ?_
  refine g_yes rfl rfl ?_
  refine g_pure (p_move rfl) rfl ?_
  refine g_yes rfl rfl ?_
  refine g_pure (p_len (by rfl) rfl) rfl ?_
  refine g_yes rfl rfl ?_
  refine g_pure (p_neqF rfl rfl rfl) rfl ?_
  first | refine g_pure (p_pickt rfl rfl) rfl ?_ | refine g_pure (p_pickf rfl rfl) rfl ?_
  refine g_pure (p_move rfl) rfl ?_
  refine g_yes rfl rfl ?_
  refine g_pure (p_move rfl) rfl ?_
  refine g_yes rfl rfl ?_
  refine g_pure (p_indexAddr rfl rfl (by omega) (fun _ => rfl)) rfl ?_
  refine g_yes rfl rfl ?_
  refine g_pure (p_load (by rfl) rfl (Has.own (by repeat' (first | exact Take.here | apply Take.there))) c0) rfl ?_
  refine g_yes rfl rfl ?_
  refine g_pure (p_neqF rfl rfl rfl) rfl ?_
  first | refine g_pure (p_pickt rfl rfl) rfl ?_ | refine g_pure (p_pickf rfl rfl) rfl ?_
  refine g_pure (p_move rfl) rfl ?_
  refine g_yes rfl rfl ?_
  refine g_pure (p_move rfl) rfl ?_
  refine g_yes rfl rfl ?_
  refine g_pure (p_indexAddr rfl rfl (by omega) (fun _ => rfl)) rfl ?_
  refine g_yes rfl rfl ?_
  refine g_pure (p_load (by rfl) rfl (Has.own (by repeat' (first | exact Take.here | apply Take.there))) c1) rfl ?_
  refine g_yes rfl rfl ?_
  refine g_pure (p_neqF rfl rfl rfl) rfl ?_
  first | refine g_pure (p_pickt rfl rfl) rfl ?_ | refine g_pure (p_pickf rfl rfl) rfl ?_
  refine g_pure (p_move rfl) rfl ?_
  refine g_yes rfl rfl ?_
  refine g_pure (p_move rfl) rfl ?_
  refine g_yes rfl rfl ?_
  refine g_pure (p_indexAddr rfl rfl (by omega) (fun _ => rfl)) rfl ?_
  refine g_yes rfl rfl ?_
  refine g_pure (p_load (by rfl) rfl (Has.own (by repeat' (first | exact Take.here | apply Take.there))) c15) rfl ?_
  refine g_yes rfl rfl ?_
  refine g_pure (p_neqF rfl rfl rfl) rfl ?_
  first | refine g_pure (p_pickt rfl rfl) rfl ?_ | refine g_pure (p_pickf rfl rfl) rfl ?_
  refine g_nil ?_
  refine g_qt ?_
  refine g_iff rfl ?_
  refine g_skip ?_
  refine g_qt ?_
  refine g_seq ?_
  refine g_fold (e := 27) (g := gb) (k := 16) (cap := bc) (size := 1) (xs := ((bitsR 16 (-2)).map lit1).map encI) (by repeat' (first | exact Take.here | apply Take.there)) b1 b2 b3 b4 ?_
  refine g_region ?_
  refine g_pure (p_move rfl) rfl ?_
  refine g_pure (p_move rfl) rfl ?_
  refine g_pure (p_move rfl) rfl ?_
  refine g_eff (e_bs (xs := [.tmp 61, .tmp 62]) rfl rfl rfl (by rfl) (by rfl) rfl (by rfl)) rfl (fun _ _ => ?_)
  rintro ⟨b63, rfl, rfl⟩
  refine g_call (Hin := [Gr p [(0, 0, false)]]) (Hr := ?hr4) (R := ?rr4) rfl rfl rfl ?hin4 ?hc4 ?hk4
  case hin4 => repeat' (first | exact Cover.nil | exact Take.here | apply Cover.cons | apply Take.there)
  case hc4 => intro ρ' hρ hR; exact apply_two (op := 9) p (S := [(0, 0, false)]) WF.new (by decide) (d7 WF.new) (dm WF.new) ⟨l7, lm⟩ (by omega) (two_rows l7 lm (Take.ro (A := Blk b63 (.cells [.slice aa 16 ac, .slice (some ⟨gb, 0, none⟩) 16 bc].toArray 26 (0, 0))) (by repeat' (first | exact Take.here | apply Take.there)) hR).blk (RSl.of_own (Take.ro (A := OwnSl 27 1 aa 16 ac (((bitsR 16 7).map lit1).map encI)) (by repeat' (first | exact Take.here | apply Take.there)) hR)) (RSl.of_own (Take.ro (A := OwnSl 27 1 (some ⟨gb, 0, none⟩) 16 bc (((bitsR 16 (-2)).map lit1).map encI)) (by repeat' (first | exact Take.here | apply Take.there)) hR))) (m := 16) rfl
  rintro _ _ ⟨qa, qc, q, T, rfl, rfl, hq, u, d⟩
  refine g_pure (p_move rfl) rfl ?_
  refine g_pure (p_extract rfl rfl) rfl ?_
  refine g_pure (p_extract rfl rfl) rfl ?_
  refine g_pure (p_assign rfl) rfl ?_
  refine g_pure (p_assign rfl) rfl ?_
  refine g_nil ?_
  refine g_qt ?_
  refine g_seq ?_
  refine g_region ?_
  refine g_pure (p_move rfl) rfl ?_
  refine g_pure (p_move rfl) rfl ?_
  refine g_pure (p_move rfl) rfl ?_
  refine g_eff (e_bs (xs := [.tmp 69, .tmp 70]) rfl rfl rfl (by rfl) (by rfl) rfl (by rfl)) rfl (fun _ _ => ?_)
  rintro ⟨b71, rfl, rfl⟩
  have hul := u.len
  refine g_call (Hin := [Gr p T]) (Hr := ?hr5) (R := ?rr5) rfl rfl rfl ?hin5 ?hc5 ?hk5
  case hin5 => repeat' (first | exact Cover.nil | exact Take.here | apply Cover.cons | apply Take.there)
  case hc5 => intro ρ' hρ hR; exact apply_two (op := 13) p (S := T) u.wf (by simp at hul; omega) (d7 u.wf) (dm u.wf) ⟨l7, lm⟩ (by omega) (two_rows l7 lm (Take.ro (A := Blk b71 (.cells [.slice aa 16 ac, .slice (some ⟨gb, 0, none⟩) 16 bc].toArray 26 (0, 0))) (by repeat' (first | exact Take.here | apply Take.there)) hR).blk (RSl.of_own (Take.ro (A := OwnSl 27 1 aa 16 ac (((bitsR 16 7).map lit1).map encI)) (by repeat' (first | exact Take.here | apply Take.there)) hR)) (RSl.of_own (Take.ro (A := OwnSl 27 1 (some ⟨gb, 0, none⟩) 16 bc (((bitsR 16 (-2)).map lit1).map encI)) (by repeat' (first | exact Take.here | apply Take.there)) hR))) (m := 1) rfl
  rintro _ _ ⟨ra, rc, r, U, rfl, rfl, hr, u2, d2⟩
  refine g_pure (p_move rfl) rfl ?_
  refine g_pure (p_extract rfl rfl) rfl ?_
  refine g_pure (p_extract rfl rfl) rfl ?_
  refine g_pure (p_assign rfl) rfl ?_
  refine g_pure (p_assign rfl) rfl ?_
  refine g_nil ?_
  refine g_qt ?_
  refine g_seq ?_
  refine g_own (e := 27) (a1 := ra) (k := 1) (cap := rc) (xs := r.map encI) (by repeat' (first | exact Take.here | apply Take.there)) (fun _ h2 _ _ => absurd h2 (by omega)) ?_
  rintro gr curr rfl e1 e2 e3 e4 e5
  have hsub : sub curr 0 (1 * 1) = some (r.map encI) := by have := sub_own (n := 1) e4 hr (Nat.le_refl _); rwa [List.take_of_length_le (by omega)] at this
  have hone : one1 (r.map encI) = true := by unfold one1; rw [List.all_eq_true]; intro v hv; obtain ⟨y, _, rfl⟩ := List.mem_map.1 hv; rfl
  refine g_region ?_
  refine g_pure (p_move rfl) rfl ?_
  refine g_pure (p_move rfl) rfl ?_
  refine g_pure (p_move rfl) rfl ?_
  refine g_eff (e_append rfl rfl rfl rfl (Has.own (b := gr) (by repeat' (first | exact Take.here | apply Take.there))) hsub hone (by repeat' (first | exact Take.here | apply Take.there)) (by omega) (by dsimp only; omega) (by omega)) rfl (fun _ _ => ?_)
  rintro ⟨va, vc, rfl, rfl⟩
  have eq1 : q.map encI ++ r.map encI = (q ++ r).map encI := (List.map_append ..).symm
  have hqr : (q ++ r).length = 17 := by rw [List.length_append]; omega
  have dqr : DenL U (q ++ r) (fun i => operateF 9 (bitsR 16 7) (bitsR 16 (-2)) ++ operateF 13 (bitsR 16 7) (bitsR 16 (-2))) := (d.up u.wf u2).app d2
  have u3 : Up (S0 0) U 10000 := u.trans u2 (by omega)
  have hev : eval1 U [] (q ++ r) = (bitsR 16 (-3) ++ [false], 0) := by
    rw [eval_up u3 rfl dqr]
    have e : operateF 9 (bitsR 16 7) (bitsR 16 (-2)) ++ operateF 13 (bitsR 16 7) (bitsR 16 (-2)) = bitsR 16 (-3) ++ [false] := by decide +kernel
    rw [e]
  rw [eq1]
  generalize q ++ r = qr at hqr dqr hev ⊢
  refine g_call (Hin := []) (Hr := ?hr6) (R := ?rr6) rfl rfl rfl ?hin6 ?hc6 ?hk6
  case hin6 => repeat' (first | exact Cover.nil | exact Take.here | apply Cover.cons | apply Take.there)
  case hc6 => intro ρ' hρ hR; exact (by have := eval_at (ρ := ρ') (p := p) (ia := none) (ic := 0) (al := va) (cl := vc) hev RSl.nil (by rw [hqr]; exact RSl.of_own (Take.ro (A := OwnSl 27 1 va 17 vc (qr.map encI)) (by repeat' (first | exact Take.here | apply Take.there)) hR)) (by omega) (by simp) (i64_of u2.wf dqr) (Take.ro (A := Gr p U) (by repeat' (first | exact Take.here | apply Take.there)) hR); rw [hqr] at this; exact this)
  rintro _ _ ⟨ea, ec, rfl, rfl⟩
  refine g_pure (p_move rfl) rfl ?_
  refine g_pure (p_extract rfl rfl) rfl ?_
  refine g_pure (p_extract rfl rfl) rfl ?_
  refine g_pure (p_assign rfl) rfl ?_
  refine g_pure (p_assign rfl) rfl ?_
  refine g_nil ?_
  refine g_qt ?_
  refine g_seq ?_
  refine g_seq ?_
  rw [show (bitsR 16 (-3) ++ [false]).length = 17 from rfl]
  refine g_cap (e := 4) (size := 1) (a1 := ea) (k := 17) (cap := ec) (xs := (bitsR 16 (-3) ++ [false]).map encB) (by repeat' (first | exact Take.here | apply Take.there)) fun hcap hcap2 => ?_
  refine g_region ?_
  refine g_pure (p_move rfl) rfl ?_
  refine g_pure (p_neqF rfl rfl rfl) rfl ?_
  refine g_pure (p_move rfl) rfl ?_
  refine g_yes rfl rfl ?_
  refine g_pure (p_move rfl) rfl ?_
  refine g_yes rfl rfl ?_
  refine g_pure (p_neqF rfl rfl rfl) rfl ?_
  first | refine g_pure (p_pickt rfl rfl) rfl ?_ | refine g_pure (p_pickf rfl rfl) rfl ?_
  refine g_pure (p_move rfl) rfl ?_
  refine g_yes rfl rfl ?_
  refine g_pure (p_move rfl) rfl ?_
  refine g_yes rfl rfl ?_
  refine g_pure (p_neqF rfl rfl rfl) rfl ?_
  first | refine g_pure (p_pickt rfl rfl) rfl ?_ | refine g_pure (p_pickf rfl rfl) rfl ?_
  refine g_pure (p_move rfl) rfl ?_
  refine g_yes rfl rfl ?_
  refine g_pure (p_move rfl) rfl ?_
  refine g_yes rfl rfl ?_
  refine g_pure (p_len (by rfl) rfl) rfl ?_
  refine g_yes rfl rfl ?_
  refine g_pure (p_neqF rfl rfl rfl) rfl ?_
  first | refine g_pure (p_pickt rfl rfl) rfl ?_ | refine g_pure (p_pickf rfl rfl) rfl ?_
  refine g_nil ?_
  refine g_qt ?_
  refine g_iff rfl ?_
  refine g_skip ?_
  refine g_qt ?_
  refine g_seq ?_
  refine g_region ?_
  refine g_pure (p_move rfl) rfl ?_
  refine g_pure (p_sliceh rfl rfl ⟨by decide, by omega⟩) rfl ?_
  refine g_call (Hin := []) (Hr := ?hr7) (R := ?rr7) rfl rfl rfl ?hin7 ?hc7 ?hk7
  case hin7 => repeat' (first | exact Cover.nil | exact Take.here | apply Cover.cons | apply Take.there)
  case hc7 => intro ρ' hρ hR; exact (by have := val_ok (ρ := ρ') (bc := ec) (ba := ea) (bs := bitsR 16 (-3)) (bitsR_len _ _) (by have := rsl_pre (m := 16) (RSl.of_own (Take.ro (A := OwnSl 4 1 ea 17 ec ((bitsR 16 (-3) ++ [false]).map encB)) (by repeat' (first | exact Take.here | apply Take.there)) hR)) (by omega); exact this); rw [show sg (bitsR 16 (-3)) = -3 by decide +kernel] at this; exact this)
  rintro _ _ ⟨rfl, rfl⟩
  refine g_pure (p_move rfl) rfl ?_
  refine g_pure (p_extract rfl rfl) rfl ?_
  refine g_pure (p_extract rfl rfl) rfl ?_
  refine g_pure (p_assign rfl) rfl ?_
  refine g_pure (p_assign rfl) rfl ?_
  refine g_nil ?_
  refine g_qt ?_
  refine g_seq ?_
  refine g_own (e := 4) (a1 := ea) (k := 17) (cap := ec) (xs := (bitsR 16 (-3) ++ [false]).map encB) (by repeat' (first | exact Take.here | apply Take.there)) (fun _ h2 _ _ => absurd h2 (by omega)) ?_
  rintro ge cure rfl f1 f2 f3 f4 f5
  have c16 : cure[0 + (16 : Int).toNat * 1]? = some (.bool false) := own_at (k := 16) f4 rfl rfl
  refine g_region ?_
  refine g_pure (p_move rfl) rfl ?_
  refine g_pure (p_eqlT rfl rfl rfl) rfl ?_
  refine g_pure (p_move rfl) rfl ?_
  refine g_yes rfl rfl ?_
  refine g_pure (p_move rfl) rfl ?_
  refine g_yes rfl rfl ?_
  refine g_pure (p_eqlT rfl rfl rfl) rfl ?_
  first | refine g_pure (p_pickt rfl rfl) rfl ?_ | refine g_pure (p_pickf rfl rfl) rfl ?_
  refine g_pure (p_move rfl) rfl ?_
  refine g_yes rfl rfl ?_
  refine g_pure (p_move rfl) rfl ?_
  refine g_yes rfl rfl ?_
  refine g_pure (p_indexAddr rfl rfl (by omega) (fun _ => rfl)) rfl ?_
  refine g_yes rfl rfl ?_
  refine g_pure (p_load (by rfl) rfl (Has.own (by repeat' (first | exact Take.here | apply Take.there))) c16) rfl ?_
  refine g_yes rfl rfl ?_
  refine g_pure (p_not rfl) rfl ?_
  first | refine g_pure (p_pickt rfl rfl) rfl ?_ | refine g_pure (p_pickf rfl rfl) rfl ?_
  refine g_pure (p_move rfl) rfl ?_
  refine g_yes rfl rfl ?_
  refine g_call (Hin := []) (Hr := ?hr8) (R := ?rr8) rfl rfl rfl ?hin8 ?hc8 ?hk8
  case hin8 => repeat' (first | exact Cover.nil | exact Take.here | apply Cover.cons | apply Take.there)
  case hc8 => intro ρ' hρ hR; exact three_ok
  rintro _ _ ⟨tb, tb2, rfl, rfl⟩
  refine g_yes rfl rfl ?_
  refine g_call (Hin := []) (Hr := ?hr9) (R := ?rr9) rfl rfl rfl ?hin9 ?hc9 ?hk9
  case hin9 => repeat' (first | exact Cover.nil | exact Take.here | apply Cover.cons | apply Take.there)
  case hc9 => intro ρ' hρ hR; exact (by have := width_ok (ρ := ρ') (ec := 1) (three_enr (b := tb) (b2 := tb2) (Take.ro (A := Blk tb _) (by repeat' (first | exact Take.here | apply Take.there)) hR).blk (Take.ro (A := Blk tb2 _) (by repeat' (first | exact Take.here | apply Take.there)) hR).blk) (by show (1 : Nat) ≤ 9223372036854775807; omega) 3 (by unfold I64; omega); rw [show widthN (threeE tb2) 3 = 2 from rfl] at this; exact this)
  rintro _ _ ⟨rfl, rfl⟩
  refine g_yes rfl rfl ?_
  refine g_pure (p_eqlT rfl rfl rfl) rfl ?_
  first | refine g_pure (p_pickt rfl rfl) rfl ?_ | refine g_pure (p_pickf rfl rfl) rfl ?_
  refine g_pure (p_assign rfl) rfl ?_
  refine g_nil ?_
  refine g_qt ?_
  refine g_ret ?_
  exact g_post (Ho := []) (rs := [.tmp 0]) rfl (.tmp rfl .nil) ⟨rfl, rfl⟩ .nil
end Go.Proofs.Ytkebblmmgcgjkaa
/- BlastConsts, BlastNil: the walk. Conditions: none. -/
namespace Go.Z.Bit
set_option maxRecDepth 8000
set_option linter.unusedVariables false
set_option linter.unusedSimpArgs false
set_option linter.unusedSectionVars false
open Go Go.Z Go.Z.Val Go.Z.Aig
theorem const_back {es : List En} {t v : Int} (h : (constF es t v).2 = 0) : valueF es t (constF es t v).1 = (v, 0) := by
  unfold constF at h ⊢
  by_cases h0 : widthN es t = 0
  · rw [if_pos h0] at h; cases h
  rw [if_neg h0] at h ⊢
  by_cases hh : tyHas es t v
  · rw [if_pos hh]
    have hs : sg (bitsR (widthN es t) v) = v := by
      have hn := num_bits (widthN es t) v
      by_cases h2 : t = 2
      · have hw : widthN es t = 16 := widthN_16.2 h2
        unfold tyHas at hh
        rw [if_pos h2] at hh
        rw [hw] at hn ⊢
        have hs := sg16 (bitsR_len 16 v)
        have e16 : ((2 ^ 16 : Nat) : Int) = 65536 := by decide
        rw [e16] at hn
        omega
      · have hw : widthN es t ≠ 16 := fun e => h2 (widthN_16.1 e)
        unfold tyHas at hh
        rw [if_neg h2] at hh
        unfold sg
        rw [if_neg (fun h => hw (by rw [← bitsR_len (widthN es t) v]; exact h.1)), hn]
        refine Int.emod_eq_of_lt hh.1 (Int.lt_of_lt_of_le hh.2 ?_)
        have h1 : t = 1 → tagN es t = 2 := fun e => by unfold tagN; rw [if_pos e]
        revert h0
        unfold widthN
        rw [if_neg h2]
        intro h0
        by_cases ht : t = 1
        · rw [if_pos ht, h1 ht]; decide
        · rw [if_neg ht] at h0 ⊢
          split
          · rename_i h3; rw [if_pos h3] at h0; exact absurd rfl h0
          · (repeat' split) <;> simp <;> omega
    unfold valueF
    rw [if_neg h0, if_neg (by simp [bitsR_len]), if_pos (by rw [hs]; exact hh), hs]
  · rw [if_neg hh] at h; cases h
end Go.Z.Bit
namespace Go.Proofs.Ytkebblmmgcgjkaa
set_option maxRecDepth 8000
set_option linter.unusedVariables false
set_option linter.unusedSimpArgs false
set_option linter.unusedSectionVars false
open Go Go.Z Go.Z.Val Go.Z.Aig Go.Z.Bit

theorem set_back {cur : List Value} {xs : List Value} {n cap : Nat} (h : cur.take (n * 1) = xs) : cur.take (n * 1) = xs := h
set_option maxHeartbeats 4000000 in
theorem bconsts_ok {ρ : Nat → Obj → Prop} {ea : Option Addr} {ec : Nat} {es : List En} (h : EnR ρ ea es) (hl : es.length ≤ maxLen) (t v : Int) (ht : I64 t) (hv : I64 v) {ba : Option Addr} {bc : Nat} {bs : List Bool} (hb : RSl ρ 1 ba bs.length (bs.map encB)) (hn : bs.length ≤ 9223372036854775807) :
    Con Try.prog ρ 4 #[.slice ea es.length ec, .int .i64 t, .int .i64 v, .slice ba bs.length bc] [] (fun u H => u = .bool true) := by
  refine con_intro Try.func4 Try.call4 rfl Try.ntmps4 rfl (L := [(0, _), (1, _), (2, _), (3, _)]) rfl fun w hh => ?_
  refine g_seq ?_
  refine g_region ?_
  refine g_pure (p_assign rfl) rfl ?_
  refine g_nil ?_
  refine g_qt ?_
  refine g_seq ?_
  refine g_seq ?_
  refine g_region ?_
  refine g_pure (p_move rfl) rfl ?_
  refine g_call (Hin := []) (Hr := ?hr1) (R := ?rr1) rfl rfl rfl ?hin1 ?hc1 ?hk1
  case hin1 => repeat' (first | exact Cover.nil | exact Take.here | apply Cover.cons | apply Take.there)
  case hc1 => intro ρ' hρ hR; exact few_ok (h.mono hρ) hl
  rintro _ _ ⟨⟨fb, rfl⟩, rfl⟩
  refine g_pure (p_not rfl) rfl ?_
  refine g_pure (p_move rfl) rfl ?_
  cases fb with
  | false =>
    refine g_no rfl rfl rfl rfl ?_
    refine g_no rfl rfl rfl rfl ?_
    refine g_no rfl rfl rfl rfl ?_
    first | refine g_pure (p_pickt rfl rfl) rfl ?_ | refine g_pure (p_pickf rfl rfl) rfl ?_
    refine g_nil ?_
    refine g_qt ?_
    refine g_ift rfl ?_
    refine g_seq ?_
    refine g_region ?_
    refine g_call (Hin := []) (Hr := ?hr2) (R := ?rr2) rfl rfl rfl ?hin2 ?hc2 ?hk2
    case hin2 => repeat' (first | exact Cover.nil | exact Take.here | apply Cover.cons | apply Take.there)
    case hc2 => intro ρ' hρ hR; exact blives_ok
    rintro _ _ ⟨rfl, rfl⟩
    refine g_pure (p_assign rfl) rfl ?_
    refine g_nil ?_
    refine g_qt ?_
    refine g_ret ?_
    refine g_qt_ret ?_
    exact g_post (Ho := []) (rs := [.tmp 8]) rfl (.tmp rfl .nil) rfl .nil
  | true =>
    refine g_yes rfl rfl ?_
    refine g_pure (p_move rfl) rfl ?_
    refine g_yes rfl rfl ?_
    refine g_pure (p_len (by rfl) rfl) rfl ?_
    refine g_yes rfl rfl ?_
    refine g_pure (p_gtr rfl rfl) rfl ?_
    first | refine g_pure (p_pickt rfl rfl) rfl ?_ | refine g_pure (p_pickf rfl rfl) rfl ?_
    refine g_nil ?_
    refine g_qt ?_
    refine g_ifd rfl (fun q => ?_) (fun q => ?_)
    · refine g_seq ?_
      refine g_region ?_
      refine g_call (Hin := []) (Hr := ?hr3) (R := ?rr3) rfl rfl rfl ?hin3 ?hc3 ?hk3
      case hin3 => repeat' (first | exact Cover.nil | exact Take.here | apply Cover.cons | apply Take.there)
      case hc3 => intro ρ' hρ hR; exact blives_ok
      rintro _ _ ⟨rfl, rfl⟩
      refine g_pure (p_assign rfl) rfl ?_
      refine g_nil ?_
      refine g_qt ?_
      refine g_ret ?_
      refine g_qt_ret ?_
      exact g_post (Ho := []) (rs := [.tmp 8]) rfl (.tmp rfl .nil) rfl .nil
    · refine g_skip ?_
      refine g_qt ?_
      refine g_seq ?_
      refine g_region ?_
      refine g_pure (p_move rfl) rfl ?_
      refine g_pure (p_move rfl) rfl ?_
      refine g_pure (p_move rfl) rfl ?_
      refine g_call (Hin := []) (Hr := ?hr4) (R := ?rr4) rfl rfl rfl ?hin4 ?hc4 ?hk4
      case hin4 => repeat' (first | exact Cover.nil | exact Take.here | apply Cover.cons | apply Take.there)
      case hc4 => intro ρ' hρ hR; exact const_ok (h.mono hρ) hl t v ht hv
      rintro _ _ ⟨xa, xc, rfl, rfl⟩
      refine g_pure (p_move rfl) rfl ?_
      refine g_pure (p_extract rfl rfl) rfl ?_
      refine g_pure (p_extract rfl rfl) rfl ?_
      refine g_pure (p_assign rfl) rfl ?_
      refine g_pure (p_assign rfl) rfl ?_
      refine g_nil ?_
      refine g_qt ?_
      refine g_seq ?_
      refine g_region ?_
      refine g_pure (p_move rfl) rfl ?_
      refine g_pure (p_move rfl) rfl ?_
      refine g_pure (p_move rfl) rfl ?_
      refine g_call (Hin := []) (Hr := ?hr5) (R := ?rr5) rfl rfl rfl ?hin5 ?hc5 ?hk5
      case hin5 => repeat' (first | exact Cover.nil | exact Take.here | apply Cover.cons | apply Take.there)
      case hc5 => intro ρ' hρ hR; exact dconst_ok (h.mono hρ) hl t v ht hv
      rintro _ _ ⟨ya, yc, rfl, rfl⟩
      refine g_pure (p_move rfl) rfl ?_
      refine g_pure (p_extract rfl rfl) rfl ?_
      refine g_pure (p_extract rfl rfl) rfl ?_
      refine g_pure (p_assign rfl) rfl ?_
      refine g_pure (p_assign rfl) rfl ?_
      refine g_nil ?_
      refine g_qt ?_
      refine g_seq ?_
      refine g_seq ?_
      refine g_region ?_
      refine g_pure (p_move rfl) rfl ?_
      refine g_pure (p_move rfl) rfl ?_
      refine g_call (Hin := []) (Hr := ?hr6) (R := ?rr6) rfl rfl rfl ?hin6 ?hc6 ?hk6
      case hin6 => repeat' (first | exact Cover.nil | exact Take.here | apply Cover.cons | apply Take.there)
      case hc6 => intro ρ' hρ hR; exact width_ok (h.mono hρ) hl t ht
      rintro _ _ ⟨rfl, rfl⟩
      refine g_pure (p_move rfl) rfl ?_
      refine g_pure (p_move rfl) rfl ?_
      refine g_call (Hin := []) (Hr := ?hr7) (R := ?rr7) rfl rfl rfl ?hin7 ?hc7 ?hk7
      case hin7 => repeat' (first | exact Cover.nil | exact Take.here | apply Cover.cons | apply Take.there)
      case hc7 => intro ρ' hρ hR; exact dwidth_ok (h.mono hρ) hl t ht
      rintro _ _ ⟨rfl, rfl⟩
      refine g_pure (p_neqF rfl rfl rfl) rfl ?_
      refine g_pure (p_move rfl) rfl ?_
      refine g_yes rfl rfl ?_
      refine g_pure (p_move rfl) rfl ?_
      refine g_yes rfl rfl ?_
      refine g_pure (p_move rfl) rfl ?_
      refine g_yes rfl rfl ?_
      refine g_pure (p_neqF rfl rfl rfl) rfl ?_
      first | refine g_pure (p_pickt rfl rfl) rfl ?_ | refine g_pure (p_pickf rfl rfl) rfl ?_
      refine g_pure (p_move rfl) rfl ?_
      refine g_yes rfl rfl ?_
      refine g_pure (p_move rfl) rfl ?_
      refine g_yes rfl rfl ?_
      refine g_pure (p_len (by rfl) rfl) rfl ?_
      refine g_yes rfl rfl ?_
      refine g_pure (p_move rfl) rfl ?_
      refine g_yes rfl rfl ?_
      refine g_pure (p_len (by rfl) rfl) rfl ?_
      refine g_yes rfl rfl ?_
      refine g_pure (p_neqF rfl rfl rfl) rfl ?_
      first | refine g_pure (p_pickt rfl rfl) rfl ?_ | refine g_pure (p_pickf rfl rfl) rfl ?_
      refine g_nil ?_
      refine g_qt ?_
      refine g_iff rfl ?_
      refine g_skip ?_
      refine g_qt ?_
      refine g_seq ?_
      refine g_seq ?_
      refine g_region ?_
      refine g_pure (p_assign rfl) rfl ?_
      refine g_nil ?_
      refine g_qt ?_
      refine g_block ?_
      have hcb := const_back (es := es) (t := t) (v := v)
      have hcl : (constF es t v).1.length ≤ 16 := by
        have := widthN_le es t
        unfold constF
        (repeat' split)
        · simp
        · rw [bitsR_len]; exact this
        · simp
      generalize constF es t v = cf at hcb hcl ⊢
      obtain ⟨m, ce⟩ := cf
      dsimp only at hcb hcl ⊢
      refine g_loop (fun k : Nat => [(0, .slice ea es.length ec), (1, .int .i64 t), (2, .int .i64 v), (3, .slice ba bs.length bc), (9, .slice xa m.length xc), (10, .int .i64 ce), (11, .slice ya m.length yc), (12, .int .i64 ce), (13, .int .i64 k)])
        (fun k => [OwnSl 27 1 xa m.length xc ((m.map lit1).map encI), OwnSl 4 1 ya m.length yc (m.map encB)]) (fun k => k ≤ m.length) (fun k => m.length - k) 0 (Nat.zero_le _) (by (repeat (first | exact trivial | refine ⟨by rfl, ?_⟩)); done) (by repeat' (first | exact Cover.nil | exact Take.here | apply Cover.cons | apply Take.there)) ?_
      rintro k hk
      refine g_seq ?_
      refine g_seq ?_
      refine g_region ?_
      refine g_pure (p_move rfl) rfl ?_
      refine g_pure (p_move rfl) rfl ?_
      refine g_pure (p_len (by rfl) rfl) rfl ?_
      refine g_pure (p_lss rfl rfl) rfl ?_
      refine g_nil ?_
      refine g_qt ?_
      refine g_ifd rfl (fun q2 => ?_) (fun q2 => ?_)
      · have hkl : k < m.length := by omega
        refine g_skip ?_
        refine g_qt ?_
        refine g_seq ?_
        refine g_block ?_
        refine g_seq ?_
        refine g_own (e := 27) (a1 := xa) (k := m.length) (cap := xc) (xs := (m.map lit1).map encI) (by repeat' (first | exact Take.here | apply Take.there)) (fun _ h2 _ _ => absurd h2 (by omega)) ?_
        rintro gx curx rfl x1 x2 x3 x4 x5
        refine g_own (e := 4) (a1 := ya) (k := m.length) (cap := yc) (xs := m.map encB) (by repeat' (first | exact Take.here | apply Take.there)) (fun _ h2 _ _ => absurd h2 (by omega)) ?_
        rintro gy cury rfl y1 y2 y3 y4 y5
        have hx : curx[0 + (k : Int).toNat * 1]? = some (.int .i64 (lit1 m[k])) := own_at (k := k) x4 rfl (by rw [List.getElem?_map, List.getElem?_map, List.getElem?_eq_getElem hkl]; rfl)
        have hy : cury[0 + (k : Int).toNat * 1]? = some (.bool m[k]) := own_at (k := k) y4 rfl (by rw [List.getElem?_map, List.getElem?_eq_getElem hkl]; rfl)
        generalize m[k] = bit at hx hy
        cases bit with
        | false =>
          refine m_begin0 (.fl 0 0 (.fl 1 0 (.fl 2 0 (.fl 3 1 (.fl 4 0 (.fl 5 0 (.fl 6 0 (.fl 7 0 (.fl 8 0 (.fl 9 1 (.fl 10 0 (.fl 11 0 (.fl 12 0 (.fl 13 0 (.fl 14 0 (.fl 15 0 (.fl 16 1 (.fl 17 0 (.fl 18 0 (.fl 19 0 (.fl 20 0 (.fl 21 1 (.fl 22 0 (.fl 23 0 .done)))))))))))))))))))))))) (by kernel_rfl) (by kernel_rfl) ?_
          refine m_float0 rfl (fun _ _ => p_move rfl) rfl ?_
          refine m_float0 rfl (fun _ _ => p_move rfl) rfl ?_
          refine m_float0 rfl (fun _ _ => p_indexAddr rfl rfl (by omega) (fun _ => rfl)) rfl ?_
          refine m_float rfl (p_load (by rfl) rfl (Has.own (by repeat' (first | exact Take.here | apply Take.there))) hx) rfl ?_
          refine m_float0 rfl (fun _ _ => p_neqF rfl rfl rfl) rfl ?_
          refine m_float0 rfl (fun _ _ => p_move rfl) rfl ?_
          refine m_no0 rfl rfl rfl rfl rfl ?_
          refine m_no0 rfl rfl rfl rfl rfl ?_
          refine m_no0 rfl rfl rfl rfl rfl ?_
          refine m_no rfl rfl rfl rfl rfl ?_
          refine m_no0 rfl rfl rfl rfl rfl ?_
          first | refine m_float0 rfl (fun _ _ => p_pickt rfl rfl) rfl ?_ | refine m_float0 rfl (fun _ _ => p_pickf rfl rfl) rfl ?_
          refine m_float0 rfl (fun _ _ => p_move rfl) rfl ?_
          refine m_yes0 rfl rfl rfl (fun _ _ => p_move rfl) rfl ?_
          refine m_yes0 rfl rfl rfl (fun _ _ => p_move rfl) rfl ?_
          refine m_yes0 rfl rfl rfl (fun _ _ => p_indexAddr rfl rfl (by omega) (fun _ => rfl)) rfl ?_
          refine m_yes rfl rfl rfl (p_load (by rfl) rfl (Has.own (by repeat' (first | exact Take.here | apply Take.there))) hx) rfl ?_
          refine m_yes0 rfl rfl rfl (fun _ _ => p_eqlF rfl rfl (by decide)) rfl ?_
          refine m_yes0 rfl rfl rfl (fun _ _ => p_move rfl) rfl ?_
          refine m_yes0 rfl rfl rfl (fun _ _ => p_move rfl) rfl ?_
          refine m_yes0 rfl rfl rfl (fun _ _ => p_indexAddr rfl rfl (by omega) (fun _ => rfl)) rfl ?_
          refine m_yes rfl rfl rfl (p_load (by rfl) rfl (Has.own (by repeat' (first | exact Take.here | apply Take.there))) hy) rfl ?_
          refine m_yes0 rfl rfl rfl (fun _ _ => p_neqbF (by rfl) rfl rfl rfl) rfl ?_
          first | refine m_float0 rfl (fun _ _ => p_pickt rfl rfl) rfl ?_ | refine m_float0 rfl (fun _ _ => p_pickf rfl rfl) rfl ?_
          refine m_nil ?_
          refine g_qt ?_
          refine g_iff rfl ?_
          refine g_skip ?_
          refine g_qb ?_
          refine g_qt ?_
          refine g_region ?_
          refine g_pure (p_move rfl) rfl ?_
          first | refine g_pure (p_addi rfl rfl (by omega)) rfl ?_ | refine g_pure (p_add rfl rfl) rfl ?_
          refine g_pure (p_assign rfl) rfl ?_
          refine g_nil ?_
          refine g_qn ?_
          refine g_fold (e := 27) (g := gx) (k := m.length) (cap := xc) (size := 1) (xs := (m.map lit1).map encI) (by repeat' (first | exact Take.here | apply Take.there)) x1 x2 x3 x4 ?_
          refine g_fold (e := 4) (g := gy) (k := m.length) (cap := yc) (size := 1) (xs := m.map encB) (by repeat' (first | exact Take.here | apply Take.there)) y1 y2 y3 y4 ?_
          exact g_next (k + 1) (by (repeat (first | exact trivial | refine ⟨by rfl, ?_⟩)); done) (by repeat' (first | exact Cover.nil | exact Take.here | apply Cover.cons | apply Take.there)) (by omega) (by omega)
        | true =>
          refine m_begin0 (.fl 0 0 (.fl 1 0 (.fl 2 0 (.fl 3 1 (.fl 4 0 (.fl 5 0 (.fl 6 0 (.fl 7 0 (.fl 8 0 (.fl 9 1 (.fl 10 0 (.fl 11 0 (.fl 12 0 (.fl 13 0 (.fl 14 0 (.fl 15 0 (.fl 16 1 (.fl 17 0 (.fl 18 0 (.fl 19 0 (.fl 20 0 (.fl 21 1 (.fl 22 0 (.fl 23 0 .done)))))))))))))))))))))))) (by kernel_rfl) (by kernel_rfl) ?_
          refine m_float0 rfl (fun _ _ => p_move rfl) rfl ?_
          refine m_float0 rfl (fun _ _ => p_move rfl) rfl ?_
          refine m_float0 rfl (fun _ _ => p_indexAddr rfl rfl (by omega) (fun _ => rfl)) rfl ?_
          refine m_float rfl (p_load (by rfl) rfl (Has.own (by repeat' (first | exact Take.here | apply Take.there))) hx) rfl ?_
          refine m_float0 rfl (fun _ _ => p_neqT rfl rfl (by decide)) rfl ?_
          refine m_float0 rfl (fun _ _ => p_move rfl) rfl ?_
          refine m_yes0 rfl rfl rfl (fun _ _ => p_move rfl) rfl ?_
          refine m_yes0 rfl rfl rfl (fun _ _ => p_move rfl) rfl ?_
          refine m_yes0 rfl rfl rfl (fun _ _ => p_indexAddr rfl rfl (by omega) (fun _ => rfl)) rfl ?_
          refine m_yes rfl rfl rfl (p_load (by rfl) rfl (Has.own (by repeat' (first | exact Take.here | apply Take.there))) hx) rfl ?_
          refine m_yes0 rfl rfl rfl (fun _ _ => p_neqF rfl rfl rfl) rfl ?_
          first | refine m_float0 rfl (fun _ _ => p_pickt rfl rfl) rfl ?_ | refine m_float0 rfl (fun _ _ => p_pickf rfl rfl) rfl ?_
          refine m_float0 rfl (fun _ _ => p_move rfl) rfl ?_
          refine m_yes0 rfl rfl rfl (fun _ _ => p_move rfl) rfl ?_
          refine m_yes0 rfl rfl rfl (fun _ _ => p_move rfl) rfl ?_
          refine m_yes0 rfl rfl rfl (fun _ _ => p_indexAddr rfl rfl (by omega) (fun _ => rfl)) rfl ?_
          refine m_yes rfl rfl rfl (p_load (by rfl) rfl (Has.own (by repeat' (first | exact Take.here | apply Take.there))) hx) rfl ?_
          refine m_yes0 rfl rfl rfl (fun _ _ => p_eqlT rfl rfl rfl) rfl ?_
          refine m_yes0 rfl rfl rfl (fun _ _ => p_move rfl) rfl ?_
          refine m_yes0 rfl rfl rfl (fun _ _ => p_move rfl) rfl ?_
          refine m_yes0 rfl rfl rfl (fun _ _ => p_indexAddr rfl rfl (by omega) (fun _ => rfl)) rfl ?_
          refine m_yes rfl rfl rfl (p_load (by rfl) rfl (Has.own (by repeat' (first | exact Take.here | apply Take.there))) hy) rfl ?_
          refine m_yes0 rfl rfl rfl (fun _ _ => p_neqbF (by rfl) rfl rfl rfl) rfl ?_
          first | refine m_float0 rfl (fun _ _ => p_pickt rfl rfl) rfl ?_ | refine m_float0 rfl (fun _ _ => p_pickf rfl rfl) rfl ?_
          refine m_nil ?_
          refine g_qt ?_
          refine g_iff rfl ?_
          refine g_skip ?_
          refine g_qb ?_
          refine g_qt ?_
          refine g_region ?_
          refine g_pure (p_move rfl) rfl ?_
          first | refine g_pure (p_addi rfl rfl (by omega)) rfl ?_ | refine g_pure (p_add rfl rfl) rfl ?_
          refine g_pure (p_assign rfl) rfl ?_
          refine g_nil ?_
          refine g_qn ?_
          refine g_fold (e := 27) (g := gx) (k := m.length) (cap := xc) (size := 1) (xs := (m.map lit1).map encI) (by repeat' (first | exact Take.here | apply Take.there)) x1 x2 x3 x4 ?_
          refine g_fold (e := 4) (g := gy) (k := m.length) (cap := yc) (size := 1) (xs := m.map encB) (by repeat' (first | exact Take.here | apply Take.there)) y1 y2 y3 y4 ?_
          exact g_next (k + 1) (by (repeat (first | exact trivial | refine ⟨by rfl, ?_⟩)); done) (by repeat' (first | exact Cover.nil | exact Take.here | apply Cover.cons | apply Take.there)) (by omega) (by omega)
      · refine g_exit ?_
        refine g_qt_exit ?_
        refine g_qn_exit ?_
        refine g_qb_exit ?_
        refine g_qt ?_
        refine g_seq ?_
        refine g_region ?_
        refine g_pure (p_move rfl) rfl ?_
        refine g_pure (p_move rfl) rfl ?_
        refine g_pure (p_move rfl) rfl ?_
        refine g_call (Hin := []) (Hr := ?hr8) (R := ?rr8) rfl rfl rfl ?hin8 ?hc8 ?hk8
        case hin8 => repeat' (first | exact Cover.nil | exact Take.here | apply Cover.cons | apply Take.there)
        case hc8 => intro ρ' hρ hR; exact bvalue_ok (h.mono hρ) hl t ht (hb.mono hρ) hn
        rintro _ _ ⟨rfl, rfl⟩
        refine g_pure (p_move rfl) rfl ?_
        refine g_pure (p_extract rfl rfl) rfl ?_
        refine g_pure (p_extract rfl rfl) rfl ?_
        refine g_pure (p_assign rfl) rfl ?_
        refine g_pure (p_assign rfl) rfl ?_
        refine g_nil ?_
        refine g_qt ?_
        refine g_seq ?_
        refine g_region ?_
        refine g_pure (p_move rfl) rfl ?_
        refine g_pure (p_move rfl) rfl ?_
        refine g_pure (p_move rfl) rfl ?_
        refine g_call (Hin := []) (Hr := ?hr9) (R := ?rr9) rfl rfl rfl ?hin9 ?hc9 ?hk9
        case hin9 => repeat' (first | exact Cover.nil | exact Take.here | apply Cover.cons | apply Take.there)
        case hc9 => intro ρ' hρ hR; exact dvalue_ok (h.mono hρ) hl t ht (hb.mono hρ) hn
        rintro _ _ ⟨rfl, rfl⟩
        refine g_pure (p_move rfl) rfl ?_
        refine g_pure (p_extract rfl rfl) rfl ?_
        refine g_pure (p_extract rfl rfl) rfl ?_
        refine g_pure (p_assign rfl) rfl ?_
        refine g_pure (p_assign rfl) rfl ?_
        refine g_nil ?_
        refine g_qt ?_
        refine g_seq ?_
        refine g_seq ?_
        refine g_region ?_
        refine g_pure (p_move rfl) rfl ?_
        refine g_pure (p_move rfl) rfl ?_
        refine g_pure (p_neqF rfl rfl rfl) rfl ?_
        refine g_pure (p_move rfl) rfl ?_
        refine g_yes rfl rfl ?_
        refine g_pure (p_move rfl) rfl ?_
        refine g_yes rfl rfl ?_
        refine g_pure (p_move rfl) rfl ?_
        refine g_yes rfl rfl ?_
        refine g_pure (p_neqF rfl rfl rfl) rfl ?_
        first | refine g_pure (p_pickt rfl rfl) rfl ?_ | refine g_pure (p_pickf rfl rfl) rfl ?_
        refine g_nil ?_
        refine g_qt ?_
        refine g_iff rfl ?_
        refine g_skip ?_
        refine g_qt ?_
        refine g_seq ?_
        refine g_seq ?_
        refine g_region ?_
        refine g_pure (p_move rfl) rfl ?_
        refine g_pure (p_neq rfl rfl) rfl ?_
        refine g_nil ?_
        refine g_qt ?_
        refine g_ifnd rfl (fun q3 => ?_) (fun q3 => ?_)
        · refine g_seq ?_
          refine g_region ?_
          refine g_call (Hin := []) (Hr := ?hr10) (R := ?rr10) rfl rfl rfl ?hin10 ?hc10 ?hk10
          case hin10 => repeat' (first | exact Cover.nil | exact Take.here | apply Cover.cons | apply Take.there)
          case hc10 => intro ρ' hρ hR; exact blives_ok
          rintro _ _ ⟨rfl, rfl⟩
          refine g_pure (p_assign rfl) rfl ?_
          refine g_nil ?_
          refine g_qt ?_
          refine g_ret ?_
          refine g_qt_ret ?_
          exact g_post (Ho := []) (rs := [.tmp 8]) rfl (.tmp rfl .nil) rfl .nil
        · have hc := hcb q3
          refine g_skip ?_
          refine g_qt ?_
          refine g_seq ?_
          refine g_region ?_
          refine g_pure (p_move rfl) rfl ?_
          refine g_pure (p_move rfl) rfl ?_
          refine g_pure (p_move rfl) rfl ?_
          refine g_call (Hin := []) (Hr := ?hr11) (R := ?rr11) rfl rfl rfl ?hin11 ?hc11 ?hk11
          case hin11 => repeat' (first | exact Cover.nil | exact Take.here | apply Cover.cons | apply Take.there)
          case hc11 => intro ρ' hρ hR; exact (by have := bvalue_ok (ρ := ρ') (bc := yc) (ec := ec) (h.mono hρ) hl t ht (RSl.of_own (Take.ro (A := OwnSl 4 1 ya m.length yc (m.map encB)) (by repeat' (first | exact Take.here | apply Take.there)) hR)) (by omega); rw [hc] at this; exact this)
          rintro _ _ ⟨rfl, rfl⟩
          refine g_pure (p_move rfl) rfl ?_
          refine g_pure (p_extract rfl rfl) rfl ?_
          refine g_pure (p_extract rfl rfl) rfl ?_
          refine g_pure (p_assign rfl) rfl ?_
          refine g_pure (p_assign rfl) rfl ?_
          refine g_nil ?_
          refine g_qt ?_
          refine g_seq ?_
          refine g_region ?_
          refine g_pure (p_move rfl) rfl ?_
          refine g_pure (p_eqlT rfl rfl rfl) rfl ?_
          refine g_pure (p_move rfl) rfl ?_
          refine g_yes rfl rfl ?_
          refine g_pure (p_move rfl) rfl ?_
          refine g_yes rfl rfl ?_
          refine g_pure (p_move rfl) rfl ?_
          refine g_yes rfl rfl ?_
          refine g_pure (p_eqlT rfl rfl rfl) rfl ?_
          first | refine g_pure (p_pickt rfl rfl) rfl ?_ | refine g_pure (p_pickf rfl rfl) rfl ?_
          refine g_pure (p_move rfl) rfl ?_
          refine g_yes rfl rfl ?_
          refine g_call (Hin := []) (Hr := ?hr12) (R := ?rr12) rfl rfl rfl ?hin12 ?hc12 ?hk12
          case hin12 => repeat' (first | exact Cover.nil | exact Take.here | apply Cover.cons | apply Take.there)
          case hc12 => intro ρ' hρ hR; exact blives_ok
          rintro _ _ ⟨rfl, rfl⟩
          first | refine g_pure (p_pickt rfl rfl) rfl ?_ | refine g_pure (p_pickf rfl rfl) rfl ?_
          refine g_pure (p_assign rfl) rfl ?_
          refine g_nil ?_
          refine g_qt ?_
          refine g_ret ?_
          exact g_post (Ho := []) (rs := [.tmp 8]) rfl (.tmp rfl .nil) rfl .nil

theorem nil_input {ρ : Nat → Obj → Prop} (t : Int) (ht : I64 t) : Con Try.prog ρ 34 #[.pointer none, .slice none 0 0, .int .i64 t] [] (fun v H => v = .tuple #[.slice none 0 0, .int .i64 1] ∧ H = []) := by
  refine con_intro Try.func34 Try.call34 rfl Try.ntmps34 rfl (L := [(0, _), (1, _), (2, _)]) rfl fun w hh => ?_
  refine g_seq ?_
  refine g_region ?_
  refine g_pure (p_assign rfl) rfl ?_
  refine g_pure (p_assign rfl) rfl ?_
  refine g_nil ?_
  refine g_qt ?_
  refine g_seq ?_
  refine g_region ?_
  refine g_pure (p_move rfl) rfl ?_
  refine g_pure (p_move rfl) rfl ?_
  refine g_call (Hin := []) (Hr := ?hr13) (R := ?rr13) rfl rfl rfl ?hin13 ?hc13 ?hk13
  case hin13 => repeat' (first | exact Cover.nil | exact Take.here | apply Cover.cons | apply Take.there)
  case hc13 => intro ρ' hρ hR; exact width_ok (ec := 0) enr_nil (Nat.zero_le _) t ht
  rintro _ _ ⟨rfl, rfl⟩
  refine g_pure (p_assign rfl) rfl ?_
  refine g_nil ?_
  refine g_qt ?_
  refine g_seq ?_
  refine g_block ?_
  refine g_seq ?_
  refine g_region ?_
  refine g_pure (p_move rfl) rfl ?_
  refine g_pure (p_eqnil (by rfl) rfl rfl) rfl ?_
  refine g_pure (p_assign rfl) rfl ?_
  refine g_nil ?_
  refine g_qt ?_
  refine g_ift rfl ?_
  refine g_seq ?_
  refine g_region ?_
  refine g_pure (p_assign rfl) rfl ?_
  refine g_pure (p_assign rfl) rfl ?_
  refine g_nil ?_
  refine g_qt ?_
  refine g_ret ?_
  refine g_qb_ret ?_
  refine g_qt_ret ?_
  exact g_post (rs := [.tmp 6, .tmp 7]) rfl (.tmp rfl (.tmp rfl .nil)) ⟨rfl, rfl⟩ .nil
theorem nil_valid {ρ : Nat → Obj → Prop} (t : Int) (ht : I64 t) : Con Try.prog ρ 35 #[.pointer none, .slice none 0 0, .int .i64 t, .slice none 0 0] [] (fun v H => v = .tuple #[.int .i64 0, .int .i64 1] ∧ H = []) := by
  refine con_intro Try.func35 Try.call35 rfl Try.ntmps35 rfl (L := [(0, _), (1, _), (2, _), (3, _)]) rfl fun w hh => ?_
  refine g_seq ?_
  refine g_region ?_
  refine g_eff (e_box rfl (by rfl)) rfl (fun _ _ => ?_)
  rintro ⟨b5, rfl, rfl⟩
  refine g_eff (e_box rfl (by rfl)) rfl (fun _ _ => ?_)
  rintro ⟨b6, rfl, rfl⟩
  refine g_eff (e_box rfl (by rfl)) rfl (fun _ _ => ?_)
  rintro ⟨b7, rfl, rfl⟩
  refine g_pure (p_assign rfl) rfl ?_
  refine g_pure (p_assign rfl) rfl ?_
  refine g_nil ?_
  refine g_qt ?_
  refine g_seq ?_
  refine g_region ?_
  refine g_pure (p_load (by rfl) rfl (by first | (apply Has.own; (repeat' (first | exact Take.here | apply Take.there)); done) | exact Has.ro (by assumption)) (by first | rfl | assumption)) rfl ?_
  refine g_pure (p_load (by rfl) rfl (by first | (apply Has.own; (repeat' (first | exact Take.here | apply Take.there)); done) | exact Has.ro (by assumption)) (by first | rfl | assumption)) rfl ?_
  refine g_call (Hin := []) (Hr := ?hr14) (R := ?rr14) rfl rfl rfl ?hin14 ?hc14 ?hk14
  case hin14 => repeat' (first | exact Cover.nil | exact Take.here | apply Cover.cons | apply Take.there)
  case hc14 => intro ρ' hρ hR; exact width_ok (ec := 0) enr_nil (Nat.zero_le _) t ht
  rintro _ _ ⟨rfl, rfl⟩
  refine g_eff (e_alloc (by rfl)) rfl (fun _ _ => ?_)
  rintro ⟨b10, rfl, rfl⟩
  first | refine g_eff0 (e_storeO rfl rfl (by rfl) (by rfl) (by rfl) (by repeat' (first | exact Take.here | apply Take.there)) (by rfl)) (fun _ _ => ?_) | refine g_eff0 (e_store1 (by rfl) rfl rfl rfl (by repeat' (first | exact Take.here | apply Take.there)) (by first | decide | (simp <;> omega) | omega)) (fun _ _ => ?_)
  rintro rfl
  refine g_nil ?_
  refine g_qt ?_
  refine g_seq ?_
  refine g_block ?_
  refine g_seq ?_
  refine g_region ?_
  refine g_pure (p_move rfl) rfl ?_
  refine g_pure (p_eqnil (by rfl) rfl rfl) rfl ?_
  refine g_pure (p_assign rfl) rfl ?_
  refine g_nil ?_
  refine g_qt ?_
  refine g_ift rfl ?_
  refine g_seq ?_
  refine g_region ?_
  refine g_pure (p_assign rfl) rfl ?_
  refine g_pure (p_assign rfl) rfl ?_
  refine g_nil ?_
  refine g_qt ?_
  refine g_ret ?_
  refine g_qb_ret ?_
  refine g_qt_ret ?_
  exact g_post (Ho := []) (rs := [.tmp 8, .tmp 9]) rfl (.tmp rfl (.tmp rfl .nil)) ⟨rfl, rfl⟩ .nil
theorem nil_apply {ρ : Nat → Obj → Prop} (op : Int) : Con Try.prog ρ 29 #[.pointer none, .int .i64 op, .slice none 0 0] [] (fun v H => v = .tuple #[.slice none 0 0, .int .i64 1] ∧ H = []) := by
  refine con_intro Try.func29 Try.call29 rfl Try.ntmps29 rfl (L := [(0, _), (1, _), (2, _)]) rfl fun w hh => ?_
  refine g_seq ?_
  refine g_region ?_
  refine g_eff (e_box rfl (by rfl)) rfl (fun _ _ => ?_)
  rintro ⟨b4, rfl, rfl⟩
  refine g_eff (e_box rfl (by rfl)) rfl (fun _ _ => ?_)
  rintro ⟨b5, rfl, rfl⟩
  refine g_pure (p_assign rfl) rfl ?_
  refine g_pure (p_assign rfl) rfl ?_
  refine g_nil ?_
  refine g_qt ?_
  refine g_seq ?_
  refine g_region ?_
  refine g_pure (p_assign rfl) rfl ?_
  refine g_nil ?_
  refine g_qt ?_
  refine g_seq ?_
  refine g_seq ?_
  refine g_region ?_
  refine g_pure (p_load (by rfl) rfl (by first | (apply Has.own; (repeat' (first | exact Take.here | apply Take.there)); done) | exact Has.ro (by assumption)) (by first | rfl | assumption)) rfl ?_
  refine g_pure (p_eql rfl rfl) rfl ?_
  refine g_pure (p_move rfl) rfl ?_
  refine g_splitd rfl rfl (fun h1 => ?_) (fun h1 => ?_)
  · refine g_no rfl rfl rfl rfl ?_
    refine g_no rfl rfl rfl rfl ?_
    first | refine g_pure (p_pickt rfl rfl) rfl ?_ | refine g_pure (p_pickf rfl rfl) rfl ?_
    refine g_nil ?_
    refine g_qt ?_
    refine g_ift rfl ?_
    refine g_region ?_
    refine g_pure (p_assign rfl) rfl ?_
    refine g_nil ?_
    refine g_qt ?_
    refine g_seq ?_
    refine g_block ?_
    refine g_seq ?_
    refine g_region ?_
    refine g_pure (p_move rfl) rfl ?_
    refine g_pure (p_eqnil (by rfl) rfl rfl) rfl ?_
    refine g_pure (p_assign rfl) rfl ?_
    refine g_nil ?_
    refine g_qt ?_
    refine g_ift rfl ?_
    refine g_seq ?_
    refine g_region ?_
    refine g_pure (p_assign rfl) rfl ?_
    refine g_pure (p_assign rfl) rfl ?_
    refine g_nil ?_
    refine g_qt ?_
    refine g_ret ?_
    refine g_qb_ret ?_
    refine g_qt_ret ?_
    exact g_post (Ho := []) (rs := [.tmp 6, .tmp 7]) rfl (.tmp rfl (.tmp rfl .nil)) ⟨rfl, rfl⟩ .nil
  · refine g_yes rfl rfl ?_
    refine g_pure (p_load (by rfl) rfl (by first | (apply Has.own; (repeat' (first | exact Take.here | apply Take.there)); done) | exact Has.ro (by assumption)) (by first | rfl | assumption)) rfl ?_
    refine g_yes rfl rfl ?_
    refine g_pure (p_eql rfl rfl) rfl ?_
    first | refine g_pure (p_pickt rfl rfl) rfl ?_ | refine g_pure (p_pickf rfl rfl) rfl ?_
    refine g_nil ?_
    refine g_qt ?_
    refine g_ifdL rfl (fun h4 => ?_) (fun h4 => ?_)
    · refine g_region ?_
      refine g_pure (p_assign rfl) rfl ?_
      refine g_nil ?_
      refine g_qt ?_
      refine g_seq ?_
      refine g_block ?_
      refine g_seq ?_
      refine g_region ?_
      refine g_pure (p_move rfl) rfl ?_
      refine g_pure (p_eqnil (by rfl) rfl rfl) rfl ?_
      refine g_pure (p_assign rfl) rfl ?_
      refine g_nil ?_
      refine g_qt ?_
      refine g_ift rfl ?_
      refine g_seq ?_
      refine g_region ?_
      refine g_pure (p_assign rfl) rfl ?_
      refine g_pure (p_assign rfl) rfl ?_
      refine g_nil ?_
      refine g_qt ?_
      refine g_ret ?_
      refine g_qb_ret ?_
      refine g_qt_ret ?_
      exact g_post (Ho := []) (rs := [.tmp 6, .tmp 7]) rfl (.tmp rfl (.tmp rfl .nil)) ⟨rfl, rfl⟩ .nil
    · refine g_skip ?_
      refine g_qt ?_
      refine g_seq ?_
      refine g_block ?_
      refine g_seq ?_
      refine g_region ?_
      refine g_pure (p_move rfl) rfl ?_
      refine g_pure (p_eqnil (by rfl) rfl rfl) rfl ?_
      refine g_pure (p_assign rfl) rfl ?_
      refine g_nil ?_
      refine g_qt ?_
      refine g_ift rfl ?_
      refine g_seq ?_
      refine g_region ?_
      refine g_pure (p_assign rfl) rfl ?_
      refine g_pure (p_assign rfl) rfl ?_
      refine g_nil ?_
      refine g_qt ?_
      refine g_ret ?_
      refine g_qb_ret ?_
      refine g_qt_ret ?_
      exact g_post (Ho := []) (rs := [.tmp 6, .tmp 7]) rfl (.tmp rfl (.tmp rfl .nil)) ⟨rfl, rfl⟩ .nil
theorem nil_mux {ρ : Nat → Obj → Prop} : Con Try.prog ρ 32 #[.pointer none, .int .i64 0, .slice none 0 0, .slice none 0 0] [] (fun v H => v = .tuple #[.slice none 0 0, .int .i64 1] ∧ H = []) := by
  refine con_intro Try.func32 Try.call32 rfl Try.ntmps32 rfl (L := [(0, _), (1, _), (2, _), (3, _)]) rfl fun w hh => ?_
  refine g_seq ?_
  refine g_region ?_
  refine g_eff (e_box rfl (by rfl)) rfl (fun _ _ => ?_)
  rintro ⟨b5, rfl, rfl⟩
  refine g_eff (e_box rfl (by rfl)) rfl (fun _ _ => ?_)
  rintro ⟨b6, rfl, rfl⟩
  refine g_eff (e_box rfl (by rfl)) rfl (fun _ _ => ?_)
  rintro ⟨b7, rfl, rfl⟩
  refine g_pure (p_assign rfl) rfl ?_
  refine g_pure (p_assign rfl) rfl ?_
  refine g_nil ?_
  refine g_qt ?_
  refine g_seq ?_
  refine g_block ?_
  refine g_seq ?_
  refine g_region ?_
  refine g_pure (p_move rfl) rfl ?_
  refine g_pure (p_eqnil (by rfl) rfl rfl) rfl ?_
  refine g_pure (p_assign rfl) rfl ?_
  refine g_nil ?_
  refine g_qt ?_
  refine g_ift rfl ?_
  refine g_seq ?_
  refine g_region ?_
  refine g_pure (p_assign rfl) rfl ?_
  refine g_pure (p_assign rfl) rfl ?_
  refine g_nil ?_
  refine g_qt ?_
  refine g_ret ?_
  refine g_qb_ret ?_
  refine g_qt_ret ?_
  exact g_post (Ho := []) (rs := [.tmp 8, .tmp 9]) rfl (.tmp rfl (.tmp rfl .nil)) ⟨rfl, rfl⟩ .nil
theorem bnil_ok {ρ : Nat → Obj → Prop} (op t : Int) (ht : I64 t) : Con Try.prog ρ 8 #[.int .i64 op, .int .i64 t] [] (fun u H => u = .bool true) := by
  refine con_intro Try.func8 Try.call8 rfl Try.ntmps8 rfl (L := [(0, _), (1, _)]) rfl fun w hh => ?_
  refine g_seq ?_
  refine g_region ?_
  refine g_pure (p_assign rfl) rfl ?_
  refine g_nil ?_
  refine g_qt ?_
  refine g_seq ?_
  refine g_region ?_
  refine g_pure (p_move rfl) rfl ?_
  refine g_call (Hin := []) (Hr := ?hr15) (R := ?rr15) rfl rfl rfl ?hin15 ?hc15 ?hk15
  case hin15 => repeat' (first | exact Cover.nil | exact Take.here | apply Cover.cons | apply Take.there)
  case hc15 => intro ρ' hρ hR; exact nil_input t ht
  rintro _ _ ⟨rfl, rfl⟩
  refine g_pure (p_move rfl) rfl ?_
  refine g_pure (p_extract rfl rfl) rfl ?_
  refine g_pure (p_extract rfl rfl) rfl ?_
  refine g_pure (p_assign rfl) rfl ?_
  refine g_pure (p_assign rfl) rfl ?_
  refine g_nil ?_
  refine g_qt ?_
  refine g_seq ?_
  refine g_region ?_
  refine g_pure (p_move rfl) rfl ?_
  refine g_call (Hin := []) (Hr := ?hr16) (R := ?rr16) rfl rfl rfl ?hin16 ?hc16 ?hk16
  case hin16 => repeat' (first | exact Cover.nil | exact Take.here | apply Cover.cons | apply Take.there)
  case hc16 => intro ρ' hρ hR; exact nil_valid t ht
  rintro _ _ ⟨rfl, rfl⟩
  refine g_pure (p_move rfl) rfl ?_
  refine g_pure (p_extract rfl rfl) rfl ?_
  refine g_pure (p_extract rfl rfl) rfl ?_
  refine g_pure (p_assign rfl) rfl ?_
  refine g_pure (p_assign rfl) rfl ?_
  refine g_nil ?_
  refine g_qt ?_
  refine g_seq ?_
  refine g_region ?_
  refine g_pure (p_move rfl) rfl ?_
  refine g_call (Hin := []) (Hr := ?hr17) (R := ?rr17) rfl rfl rfl ?hin17 ?hc17 ?hk17
  case hin17 => repeat' (first | exact Cover.nil | exact Take.here | apply Cover.cons | apply Take.there)
  case hc17 => intro ρ' hρ hR; exact nil_apply op
  rintro _ _ ⟨rfl, rfl⟩
  refine g_pure (p_move rfl) rfl ?_
  refine g_pure (p_extract rfl rfl) rfl ?_
  refine g_pure (p_extract rfl rfl) rfl ?_
  refine g_pure (p_assign rfl) rfl ?_
  refine g_pure (p_assign rfl) rfl ?_
  refine g_nil ?_
  refine g_qt ?_
  refine g_seq ?_
  refine g_region ?_
  refine g_call (Hin := []) (Hr := ?hr18) (R := ?rr18) rfl rfl rfl ?hin18 ?hc18 ?hk18
  case hin18 => repeat' (first | exact Cover.nil | exact Take.here | apply Cover.cons | apply Take.there)
  case hc18 => intro ρ' hρ hR; exact nil_mux
  rintro _ _ ⟨rfl, rfl⟩
  refine g_pure (p_move rfl) rfl ?_
  refine g_pure (p_extract rfl rfl) rfl ?_
  refine g_pure (p_extract rfl rfl) rfl ?_
  refine g_pure (p_assign rfl) rfl ?_
  refine g_pure (p_assign rfl) rfl ?_
  refine g_nil ?_
  refine g_qt ?_
  refine g_seq ?_
  refine g_region ?_
  refine g_pure (p_move rfl) rfl ?_
  refine g_pure (p_eqlT rfl rfl rfl) rfl ?_
  refine g_pure (p_move rfl) rfl ?_
  refine g_yes rfl rfl ?_
  refine g_pure (p_move rfl) rfl ?_
  refine g_yes rfl rfl ?_
  refine g_pure (p_eqlT rfl rfl rfl) rfl ?_
  first | refine g_pure (p_pickt rfl rfl) rfl ?_ | refine g_pure (p_pickf rfl rfl) rfl ?_
  refine g_pure (p_move rfl) rfl ?_
  refine g_yes rfl rfl ?_
  refine g_pure (p_move rfl) rfl ?_
  refine g_yes rfl rfl ?_
  refine g_pure (p_eqlT rfl rfl rfl) rfl ?_
  first | refine g_pure (p_pickt rfl rfl) rfl ?_ | refine g_pure (p_pickf rfl rfl) rfl ?_
  refine g_pure (p_move rfl) rfl ?_
  refine g_yes rfl rfl ?_
  refine g_pure (p_move rfl) rfl ?_
  refine g_yes rfl rfl ?_
  refine g_pure (p_eqlT rfl rfl rfl) rfl ?_
  first | refine g_pure (p_pickt rfl rfl) rfl ?_ | refine g_pure (p_pickf rfl rfl) rfl ?_
  refine g_pure (p_move rfl) rfl ?_
  refine g_yes rfl rfl ?_
  refine g_call (Hin := []) (Hr := ?hr19) (R := ?rr19) rfl rfl rfl ?hin19 ?hc19 ?hk19
  case hin19 => repeat' (first | exact Cover.nil | exact Take.here | apply Cover.cons | apply Take.there)
  case hc19 => intro ρ' hρ hR; exact blives_ok
  rintro _ _ ⟨rfl, rfl⟩
  first | refine g_pure (p_pickt rfl rfl) rfl ?_ | refine g_pure (p_pickf rfl rfl) rfl ?_
  refine g_pure (p_assign rfl) rfl ?_
  refine g_nil ?_
  refine g_qt ?_
  refine g_ret ?_
  exact g_post (Ho := []) (rs := [.tmp 4]) rfl (.tmp rfl .nil) rfl .nil
end Go.Proofs.Ytkebblmmgcgjkaa
/- BlastApplies. Conditions: none. -/
namespace Go.Z.Bit
set_option maxRecDepth 8000
set_option linter.unusedVariables false
set_option linter.unusedSimpArgs false
set_option linter.unusedSectionVars false
open Go Go.Z Go.Z.Val Go.Z.Aig
def offs (args : List (List Bool)) (j : Nat) : Nat := (args.take j).flatten.length
def cutL {α : Type} (args : List (List Bool)) (l : List α) : List (List α) := (List.range args.length).map fun j => (l.drop (offs args j)).take (args.getD j []).length
theorem cutL_len {α : Type} (args : List (List Bool)) (l : List α) : (cutL args l).length = args.length := by simp [cutL]
theorem offs_succ {args : List (List Bool)} {j : Nat} (h : j < args.length) : offs args (j + 1) = offs args j + args[j].length := by
  unfold offs
  rw [List.take_add_one, List.getElem?_eq_getElem h, Option.toList_some, List.flatten_append, List.length_append]; simp
theorem offs_le (args : List (List Bool)) (j : Nat) : offs args j ≤ args.flatten.length := by
  unfold offs
  conv => rhs; rw [← List.take_append_drop j args, List.flatten_append, List.length_append]
  omega
theorem cutL_at {α : Type} {args : List (List Bool)} {l : List α} {j : Nat} (h : j < args.length) : (cutL args l)[j]'(by rw [cutL_len]; exact h) = (l.drop (offs args j)).take args[j].length := by
  unfold cutL
  rw [List.getElem_map, List.getElem_range, List.getD_eq_getElem?_getD, List.getElem?_eq_getElem h]; rfl
theorem cut_flat {args : List (List Bool)} {j : Nat} (h : j < args.length) : (args.flatten.drop (offs args j)).take args[j].length = args[j] := by
  have e : args.flatten = (args.take j).flatten ++ (args[j] ++ (args.drop (j + 1)).flatten) := by
    conv => lhs; rw [← List.take_append_drop j args, List.flatten_append, List.drop_eq_getElem_cons h, List.flatten_cons]
  unfold offs
  rw [e, List.drop_left, List.take_left]
theorem cutL_lens {α : Type} {args : List (List Bool)} {l : List α} (h : l.length = args.flatten.length) : (cutL args l).map List.length = args.map List.length := by
  apply List.ext_getElem
  · rw [List.length_map, List.length_map, cutL_len]
  · intro j h1 h2
    have hj : j < args.length := by simpa using h2
    rw [List.getElem_map, List.getElem_map, cutL_at hj, List.length_take, List.length_drop, h]
    have h3 := offs_le args (j + 1)
    rw [offs_succ hj] at h3
    omega
theorem cutL_map {α : Type} {args : List (List Bool)} {l : List α} {V : α → Bool} (h : l.map V = args.flatten) : (cutL args l).map (·.map V) = args := by
  apply List.ext_getElem
  · rw [List.length_map, cutL_len]
  · intro j h1 h2
    rw [List.getElem_map, cutL_at h2, List.map_take, List.map_drop, h, cut_flat h2]
theorem headD_map {α β : Type} (f : α → β) (l : List α) (d : α) : f (l.headD d) = (l.map f).headD (f d) := by cases l <;> rfl
theorem lastD_map {α β : Type} (f : α → β) : ∀ (l : List α) (d : α), f (l.getLastD d) = (l.map f).getLastD (f d)
  | [], _ => rfl
  | x :: l, d => by
    rw [List.getLastD_cons, List.map_cons, List.getLastD_cons]
    exact lastD_map f l x
theorem cutL_mem {α : Type} {args : List (List Bool)} {l : List α} {x : α} (h : x ∈ (cutL args l).flatten) : x ∈ l := by
  obtain ⟨r, h1, h2⟩ := List.mem_flatten.1 h
  obtain ⟨j, _, rfl⟩ := List.mem_map.1 h1
  exact List.mem_of_mem_drop (List.mem_of_mem_take h2)
end Go.Z.Bit
namespace Go.Z
set_option maxRecDepth 8000
set_option linter.unusedVariables false
set_option linter.unusedSimpArgs false
set_option linter.unusedSectionVars false
open Go
theorem rsl_sub {ρ : Nat → Obj → Prop} {a ad : Option Addr} {n o k : Nat} {xs : List Value} (h : RSl ρ 1 a n xs) (hk : o + k ≤ n) (ha : 0 < k → ad = a.map (·.add (o * 1))) : RSl ρ 1 ad k ((xs.drop o).take k) := by
  rcases Nat.eq_zero_or_pos k with rfl | h0
  · rw [List.take_zero]; exact RSl.nil
  obtain ⟨h1, b, off, cs, T, fz, h2⟩ := h
  obtain ⟨k1, k2, k3⟩ := h2 (by omega)
  refine ⟨by rw [List.length_take, List.length_drop]; omega, b, off + o, cs, T, fz, fun _ => ⟨?_, k2, fun j v hj => ?_⟩⟩
  · rw [ha h0, k1]
    show some (Addr.add ⟨b, off, none⟩ (o * 1)) = _
    have : Addr.add ⟨b, off, none⟩ (o * 1) = ⟨b, off + o, none⟩ := by unfold Addr.add; split <;> simp_all
    rw [this]
  · rw [List.getElem?_take] at hj
    split at hj
    · rw [List.getElem?_drop] at hj
      rw [Nat.add_assoc]; exact k3 _ _ hj
    · cases hj
end Go.Z
namespace Go.Proofs.Ytkebblmmgcgjkaa
set_option maxRecDepth 8000
set_option linter.unusedVariables false
set_option linter.unusedSimpArgs false
set_option linter.unusedSectionVars false
open Go Go.Z Go.Z.Val Go.Z.Aig Go.Z.Bit

/-- the headers of cut parts -/
def Hds (la : Option Addr) (args : List (List Bool)) (hs : List Value) (k : Nat) : Prop := hs.length = k ∧ ∀ j (hj : j < args.length), j < k → ∃ ad c, hs[j]? = some (.slice ad args[j].length c) ∧ (0 < args[j].length → ad = la.map (·.add (offs args j * 1)))
theorem Hds.rows {ρ : Nat → Obj → Prop} {la oa : Option Addr} {args : List (List Bool)} {hs : List Value} {l : List Int} (h : Hds la args hs args.length) (hl : l.length = args.flatten.length) (hr : RSl ρ 1 la l.length (l.map encI)) (ho : RSl ρ 1 oa args.length hs) : RSl2 ρ oa ((cutL args l).map (·.map encI)) := by
  obtain ⟨h1, h2⟩ := h
  refine ⟨hs, ⟨by rw [List.length_map, cutL_len]; exact h1, fun j hj => ?_⟩, by rw [List.length_map, cutL_len]; exact ho⟩
  have hj' : j < args.length := by rw [List.length_map, cutL_len] at hj; exact hj
  obtain ⟨ad, c, e1, e2⟩ := h2 j hj' hj'
  have h3 := offs_le args (j + 1)
  rw [offs_succ hj'] at h3
  have hlen : ((l.drop (offs args j)).take args[j].length).length = args[j].length := by rw [List.length_take, List.length_drop]; omega
  refine ⟨ad, c, ?_, ?_⟩
  · rw [e1, List.getElem_map, cutL_at hj', List.length_map, hlen]
  · rw [List.getElem_map, cutL_at hj', List.length_map, hlen, List.map_take, List.map_drop]
    exact rsl_sub hr (by omega) e2

set_option maxHeartbeats 4000000 in
theorem bapplies_ok {ρ : Nat → Obj → Prop} {aa : Option Addr} {ac : Nat} {args : List (List Bool)} (op : Int) (hr : RSl2 ρ aa (args.map (·.map encB))) (hn : args.length ≤ 9223372036854775807) (hls : ∀ x ∈ args, x.length ≤ 9223372036854775807) :
    Con Try.prog ρ 5 #[.int .i64 op, .slice aa args.length ac] [] (fun u H => u = .bool true) := by
  obtain ⟨b1, o1, cs1, T1, fz1, hrd⟩ := brd2 hr
  refine con_intro Try.func5 Try.call5 rfl Try.ntmps5 rfl (L := [(0, _), (1, _)]) rfl fun w hh => ?_
  refine g_seq ?_
  refine g_region ?_
  refine g_pure (p_assign rfl) rfl ?_
  refine g_nil ?_
  refine g_qt ?_
  refine g_seq ?_
  refine g_seq ?_
  refine g_region ?_
  refine g_pure (p_move rfl) rfl ?_
  refine g_pure (p_len (by rfl) rfl) rfl ?_
  refine g_pure (p_gtr rfl rfl) rfl ?_
  refine g_nil ?_
  refine g_qt ?_
  refine g_ifd rfl (fun q => ?_) (fun q => ?_)
  · refine g_seq ?_
    refine g_region ?_
    refine g_call (Hin := []) (Hr := ?hr1) (R := ?rr1) rfl rfl rfl ?hin1 ?hc1 ?hk1
    case hin1 => repeat' (first | exact Cover.nil | exact Take.here | apply Cover.cons | apply Take.there)
    case hc1 => intro ρ' hρ hR; exact blives_ok
    rintro _ _ ⟨rfl, rfl⟩
    refine g_pure (p_assign rfl) rfl ?_
    refine g_nil ?_
    refine g_qt ?_
    refine g_ret ?_
    refine g_qt_ret ?_
    exact g_post (Ho := []) (rs := [.tmp 4]) rfl (.tmp rfl .nil) rfl .nil
  · have hn3 : args.length ≤ 3 := by omega
    refine g_skip ?_
    refine g_qt ?_
    refine g_seq ?_
    refine g_region ?_
    refine g_pure (p_assign rfl) rfl ?_
    refine g_nil ?_
    refine g_qt ?_
    refine g_seq ?_
    refine g_seq ?_
    refine g_region ?_
    refine g_pure (p_assign rfl) rfl ?_
    refine g_nil ?_
    refine g_qt ?_
    refine g_block ?_
    refine g_ownnil (e := 4) (size := 1) ?_
    refine g_loop (fun q : Nat × Option Addr × Nat => [(0, .int .i64 op), (1, .slice aa args.length ac), (5, .slice q.2.1 (args.take q.1).flatten.length q.2.2), (6, .int .i64 q.1)])
      (fun q => [OwnSl 4 1 q.2.1 (args.take q.1).flatten.length q.2.2 ((args.take q.1).flatten.map encB)]) (fun q => q.1 ≤ args.length ∧ offs args q.1 ≤ 18 * q.1 ∧ ∀ j (hj : j < args.length), j < q.1 → args[j].length ≤ 18) (fun q => args.length - q.1) (0, none, 0) ⟨Nat.zero_le _, by show (0 : Nat) ≤ _; omega, fun j _ h => absurd h (Nat.not_lt_zero j)⟩ (by (repeat (first | exact trivial | refine ⟨by rfl, ?_⟩)); done) (by repeat' (first | exact Cover.nil | exact Take.here | apply Cover.cons | apply Take.there)) ?_
    rintro ⟨k, ia, ic⟩ ⟨hk, ho18, h18⟩
    dsimp only at hk ho18 h18 ⊢
    refine g_seq ?_
    refine g_seq ?_
    refine g_region ?_
    refine g_pure (p_move rfl) rfl ?_
    refine g_pure (p_move rfl) rfl ?_
    refine g_pure (p_len (by rfl) rfl) rfl ?_
    refine g_pure (p_lss rfl rfl) rfl ?_
    refine g_nil ?_
    refine g_qt ?_
    refine g_ifd rfl (fun q2 => ?_) (fun q2 => ?_)
    · have hkl : k < args.length := by omega
      obtain ⟨r1, r2, r3⟩ := hrd (by omega)
      obtain ⟨ai, ci, e1, e2⟩ := r3 k hkl
      have hoff := offs_succ hkl
      refine g_skip ?_
      refine g_qt ?_
      refine g_seq ?_
      refine g_block ?_
      refine g_seq ?_
      refine g_seq ?_
      refine g_region ?_
      refine g_pure (p_move rfl) rfl ?_
      refine g_pure (p_move rfl) rfl ?_
      refine g_pure (p_indexAddr rfl rfl (by omega) (fun _ => r1)) rfl ?_
      refine g_pure (p_load (by rfl) rfl (Has.ro r2) e1) rfl ?_
      refine g_pure (p_len (by rfl) rfl) rfl ?_
      refine g_pure (p_gtr rfl rfl) rfl ?_
      refine g_nil ?_
      refine g_qt ?_
      refine g_ifd rfl (fun q3 => ?_) (fun q3 => ?_)
      · refine g_seq ?_
        refine g_region ?_
        refine g_call (Hin := []) (Hr := ?hr2) (R := ?rr2) rfl rfl rfl ?hin2 ?hc2 ?hk2
        case hin2 => repeat' (first | exact Cover.nil | exact Take.here | apply Cover.cons | apply Take.there)
        case hc2 => intro ρ' hρ hR; exact blives_ok
        rintro _ _ ⟨rfl, rfl⟩
        refine g_pure (p_assign rfl) rfl ?_
        refine g_nil ?_
        refine g_qt ?_
        refine g_ret ?_
        refine g_qt_ret ?_
        refine g_qb_ret ?_
        refine g_qt_ret ?_
        refine g_qn_ret ?_
        refine g_qb_ret ?_
        refine g_qt_ret ?_
        exact g_post (Ho := []) (rs := [.tmp 4]) rfl (.tmp rfl .nil) rfl .nil
      · have hk18 : args[k].length ≤ 18 := by omega
        have hf : (args.take (k + 1)).flatten = (args.take k).flatten ++ args[k] := by
          rw [List.take_add_one, List.getElem?_eq_getElem hkl, Option.toList_some, List.flatten_append]; simp
        have hok : (args.take k).flatten.length ≤ 18 * k := ho18
        have hnx : offs args (k + 1) ≤ 18 * (k + 1) := by omega
        have hall : ∀ j (hj : j < args.length), j < k + 1 → args[j].length ≤ 18 := fun j hj h => (if e : j = k then by subst e; exact hk18 else h18 j hj (by omega))
        rcases Nat.eq_zero_or_pos args[k].length with h0 | h0
        · have hnil : args[k] = [] := List.eq_nil_of_length_eq_zero h0
          rw [h0] at e1
          refine g_cap (e := 4) (size := 1) (a1 := ia) (k := (args.take k).flatten.length) (cap := ic) (xs := (args.take k).flatten.map encB) (by repeat' (first | exact Take.here | apply Take.there)) fun hcap _ => ?_
          refine g_skip ?_
          refine g_qt ?_
          refine g_region ?_
          refine g_pure (p_move rfl) rfl ?_
          refine g_pure (p_move rfl) rfl ?_
          refine g_pure (p_move rfl) rfl ?_
          refine g_pure (p_indexAddr rfl rfl (by omega) (fun _ => r1)) rfl ?_
          refine g_pure (p_load (by rfl) rfl (Has.ro r2) e1) rfl ?_
          refine g_eff (e_append0 rfl rfl hcap) rfl (fun _ _ => ?_)
          rintro ⟨rfl, rfl⟩
          refine g_pure (p_assign rfl) rfl ?_
          refine g_nil ?_
          refine g_qb ?_
          refine g_qt ?_
          refine g_region ?_
          refine g_pure (p_move rfl) rfl ?_
          first | refine g_pure (p_addi rfl rfl (by omega)) rfl ?_ | refine g_pure (p_add rfl rfl) rfl ?_
          refine g_pure (p_assign rfl) rfl ?_
          refine g_nil ?_
          refine g_qn ?_
          have e4 : (args.take k).flatten = (args.take (k + 1)).flatten := by rw [hf, hnil, List.append_nil]
          rw [e4]
          exact g_next (k + 1, ia, ic) (by (repeat (first | exact trivial | refine ⟨by rfl, ?_⟩)); done) (by repeat' (first | exact Cover.nil | exact Take.here | apply Cover.cons | apply Take.there)) ⟨by dsimp only; omega, hnx, hall⟩ (by dsimp only; omega)
        · obtain ⟨hel, bb, oo, cc, TT, zz, hb⟩ := e2
          obtain ⟨b1', b2', b3'⟩ := hb h0
          subst b1'
          have hsub : sub cc oo (args[k].length * 1) = some (args[k].map encB) := by
            have := sub_of (o := oo) (i := 0) (k := args[k].length) b3' h0 (by rw [List.length_map]; omega)
            rw [List.drop_zero, List.take_of_length_le (by rw [List.length_map]; omega)] at this
            rw [Nat.mul_one]; exact this
          have hone : one1 (args[k].map encB) = true := by unfold one1; rw [List.all_eq_true]; intro v hv; obtain ⟨y, _, rfl⟩ := List.mem_map.1 hv; rfl
          refine g_skip ?_
          refine g_qt ?_
          refine g_region ?_
          refine g_pure (p_move rfl) rfl ?_
          refine g_pure (p_move rfl) rfl ?_
          refine g_pure (p_move rfl) rfl ?_
          refine g_pure (p_indexAddr rfl rfl (by omega) (fun _ => r1)) rfl ?_
          refine g_pure (p_load (by rfl) rfl (Has.ro r2) e1) rfl ?_
          refine g_eff (e_append rfl rfl rfl rfl (Has.ro b2') hsub hone (by repeat' (first | exact Take.here | apply Take.there)) h0 (by dsimp only; omega) (by omega)) rfl (fun _ _ => ?_)
          rintro ⟨a41, c41, rfl, rfl⟩
          refine g_pure (p_assign rfl) rfl ?_
          refine g_nil ?_
          refine g_qb ?_
          refine g_qt ?_
          refine g_region ?_
          refine g_pure (p_move rfl) rfl ?_
          first | refine g_pure (p_addi rfl rfl (by omega)) rfl ?_ | refine g_pure (p_add rfl rfl) rfl ?_
          refine g_pure (p_assign rfl) rfl ?_
          refine g_nil ?_
          refine g_qn ?_
          have e4 : (args.take k).flatten.map encB ++ args[k].map encB = (args.take (k + 1)).flatten.map encB := by rw [hf, List.map_append]
          have e5 : (args.take k).flatten.length + args[k].length = (args.take (k + 1)).flatten.length := by rw [hf, List.length_append]
          rw [e4, e5]
          exact g_next (k + 1, a41, c41) (by (repeat (first | exact trivial | refine ⟨by rfl, ?_⟩)); done) (by repeat' (first | exact Cover.nil | exact Take.here | apply Cover.cons | apply Take.there)) ⟨by dsimp only; omega, hnx, hall⟩ (by dsimp only; omega)
    · have hke : k = args.length := by omega
      subst hke
      have hn54 : args.flatten.length ≤ 54 := by unfold offs at ho18; rw [List.take_of_length_le (Nat.le_refl _)] at ho18; omega
      rw [List.take_of_length_le (Nat.le_refl _)]
      have hall : ∀ x ∈ args, x.length ≤ 18 := fun x hx => by obtain ⟨j, hj, rfl⟩ := List.getElem_of_mem hx; exact h18 j hj hj
      obtain ⟨n, hnn⟩ : ∃ n, args.flatten.length = n := ⟨_, rfl⟩
      rw [hnn]
      refine g_exit ?_
      refine g_qt_exit ?_
      refine g_qn_exit ?_
      refine g_qb_exit ?_
      refine g_qt ?_
      refine g_seq ?_
      refine g_region ?_
      refine g_pure (p_move rfl) rfl ?_
      refine g_pure (p_len (by rfl) rfl) rfl ?_
      refine g_call (Hin := []) (Hr := ?hr3) (R := ?rr3) rfl rfl rfl ?hin3 ?hc3 ?hk3
      case hin3 => repeat' (first | exact Cover.nil | exact Take.here | apply Cover.cons | apply Take.there)
      case hc3 => intro ρ' hρ hR; exact inputs38_ok n (by omega)
      rintro _ _ ⟨p, la, lc, rfl, rfl⟩
      refine g_pure (p_move rfl) rfl ?_
      refine g_pure (p_extract rfl rfl) rfl ?_
      refine g_pure (p_extract rfl rfl) rfl ?_
      refine g_pure (p_assign rfl) rfl ?_
      refine g_pure (p_assign rfl) rfl ?_
      refine g_nil ?_
      refine g_qt ?_
      refine g_seq ?_
      refine g_seq ?_
      refine g_region ?_
      refine g_pure (p_move rfl) rfl ?_
      refine g_pure (p_eqnil (by rfl) rfl rfl) rfl ?_
      refine g_nil ?_
      refine g_qt ?_
      refine g_iff rfl ?_
      refine g_skip ?_
      refine g_qt ?_
      refine g_seq ?_
      refine g_region ?_
      refine g_pure (p_assign rfl) rfl ?_
      refine g_nil ?_
      refine g_qt ?_
      refine g_seq ?_
      refine g_region ?_
      refine g_pure (p_assign rfl) rfl ?_
      refine g_nil ?_
      refine g_qt ?_
      refine g_seq ?_
      refine g_seq ?_
      refine g_region ?_
      refine g_pure (p_assign rfl) rfl ?_
      refine g_nil ?_
      refine g_qt ?_
      refine g_block ?_
      refine g_ownnil (e := 26) (size := 1) ?_
      refine g_cap (e := 27) (size := 1) (a1 := la) (k := n) (cap := lc) (xs := (inL n).map encI) (by repeat' (first | exact Take.here | apply Take.there)) fun hcap _ => ?_
      have hw0 := S0_wf n (by omega)
      refine g_loop (fun q : Nat × List Value × Option Addr × Nat => [(0, .int .i64 op), (1, .slice aa args.length ac), (5, .slice ia n ic), (7, .pointer (some ⟨p, 0, none⟩)), (8, .slice la n lc), (9, .slice q.2.2.1 q.1 q.2.2.2), (10, .int .i64 (offs args q.1 : Nat)), (11, .int .i64 q.1)])
        (fun q => [OwnSl 26 1 q.2.2.1 q.1 q.2.2.2 q.2.1, OwnSl 27 1 la n lc ((inL n).map encI), OwnSl 4 1 ia n ic (args.flatten.map encB), Gr p (S0 n)]) (fun q => q.1 ≤ args.length ∧ Hds la args q.2.1 q.1) (fun q => args.length - q.1) (0, [], none, 0) ⟨Nat.zero_le _, rfl, fun j _ h => absurd h (Nat.not_lt_zero j)⟩ (by (repeat (first | exact trivial | refine ⟨by rfl, ?_⟩)); done) (by repeat' (first | exact Cover.nil | exact Take.here | apply Cover.cons | apply Take.there)) ?_
      rintro ⟨k, hs, oa, oc⟩ ⟨hk, hh1, hh2⟩
      dsimp only at hk hh1 hh2 ⊢
      refine g_seq ?_
      refine g_seq ?_
      refine g_region ?_
      refine g_pure (p_move rfl) rfl ?_
      refine g_pure (p_move rfl) rfl ?_
      refine g_pure (p_len (by rfl) rfl) rfl ?_
      refine g_pure (p_lss rfl rfl) rfl ?_
      refine g_nil ?_
      refine g_qt ?_
      refine g_ifd rfl (fun q4 => ?_) (fun q4 => ?_)
      · have hkl : k < args.length := by omega
        obtain ⟨r1, r2, r3⟩ := hrd (by omega)
        obtain ⟨ai, ci, e1, e2⟩ := r3 k hkl
        have hoff := offs_succ hkl
        have hof2 := offs_le args (k + 1)
        rw [hnn] at hof2
        refine g_skip ?_
        refine g_qt ?_
        refine g_seq ?_
        refine g_block ?_
        refine g_seq ?_
        refine g_region ?_
        refine g_pure (p_move rfl) rfl ?_
        refine g_pure (p_move rfl) rfl ?_
        refine g_pure (p_move rfl) rfl ?_
        refine g_pure (p_move rfl) rfl ?_
        refine g_pure (p_move rfl) rfl ?_
        refine g_pure (p_move rfl) rfl ?_
        refine g_pure (p_indexAddr rfl rfl (by omega) (fun _ => r1)) rfl ?_
        refine g_pure (p_load (by rfl) rfl (Has.ro r2) e1) rfl ?_
        refine g_pure (p_len (by rfl) rfl) rfl ?_
        first | refine g_pure (p_addi rfl rfl (by omega)) rfl ?_ | refine g_pure (p_add rfl rfl) rfl ?_
        refine g_pure (p_slicelh rfl rfl rfl (by omega) (by omega)) rfl ?_
        refine g_eff (e_bs (xs := [.tmp 66]) rfl rfl rfl (by rfl) (by rfl) rfl (by rfl)) rfl (fun _ _ => ?_)
        rintro ⟨b67, rfl, rfl⟩
        refine g_eff (e_appendO (by rfl) (by rfl) rfl rfl (by first | (apply Has.own; (repeat' (first | exact Take.here | apply Take.there)); done) | exact Has.ro (by assumption)) (by rfl) (by rfl) (by repeat' (first | exact Take.here | apply Take.there)) (by omega) (by first | omega | (dsimp only; omega) | (simp <;> omega)) (by omega)) rfl (fun _ _ => ?_)
        rintro ⟨a68, c68, rfl, rfl⟩
        refine g_pure (p_assign rfl) rfl ?_
        refine g_nil ?_
        refine g_qt ?_
        refine g_region ?_
        refine g_pure (p_move rfl) rfl ?_
        refine g_pure (p_move rfl) rfl ?_
        refine g_pure (p_move rfl) rfl ?_
        refine g_pure (p_indexAddr rfl rfl (by omega) (fun _ => r1)) rfl ?_
        refine g_pure (p_load (by rfl) rfl (Has.ro r2) e1) rfl ?_
        refine g_pure (p_len (by rfl) rfl) rfl ?_
        first | refine g_pure (p_addi rfl rfl (by omega)) rfl ?_ | refine g_pure (p_add rfl rfl) rfl ?_
        refine g_pure (p_assign rfl) rfl ?_
        refine g_nil ?_
        refine g_qb ?_
        refine g_qt ?_
        refine g_region ?_
        refine g_pure (p_move rfl) rfl ?_
        first | refine g_pure (p_addi rfl rfl (by omega)) rfl ?_ | refine g_pure (p_add rfl rfl) rfl ?_
        refine g_pure (p_assign rfl) rfl ?_
        refine g_nil ?_
        refine g_qn ?_
        have e6 : ((offs args k : Nat) : Int) + (args[k].length : Int) = ((offs args (k + 1) : Nat) : Int) := by omega
        rw [e6]
        refine g_next (k + 1, _, a68, c68) ⟨rfl, rfl, rfl, rfl, rfl, rfl, rfl, rfl, trivial⟩ (by repeat' (first | exact Cover.nil | exact Take.here | apply Cover.cons | apply Take.there)) ⟨by dsimp only; omega, by simp [hh1], fun j hj hjk => ?_⟩ (by dsimp only; omega)
        by_cases hjk' : j < k
        · obtain ⟨ad, c, f1, f2⟩ := hh2 j hj hjk'
          exact ⟨ad, c, by rw [List.getElem?_append_left (by omega)]; exact f1, f2⟩
        · obtain rfl : j = k := by omega
          refine ⟨_, _, by rw [List.getElem?_append_right (by omega), hh1, Nat.sub_self, List.getElem?_cons_zero]; congr 2; omega, fun hpos => ?_⟩
          rw [if_neg (by omega)]
          rfl
      · have hke : k = args.length := by omega
        subst hke
        refine g_exit ?_
        refine g_qt_exit ?_
        refine g_qn_exit ?_
        refine g_qb_exit ?_
        refine g_qt ?_
        refine g_seq ?_
        refine g_region ?_
        refine g_pure (p_move rfl) rfl ?_
        have hds : Hds la args hs args.length := ⟨hh1, hh2⟩
        have hil := inL_len n
        obtain ⟨hin1, hin2⟩ := den_ins (m := n) (by omega)
        have hin := hin2 args.flatten hnn
        have hS : (S0 n).length = n + 1 := S0_len n
        have hlens := cutL_lens (args := args) (l := inL n) (by omega)
        have happ : applyE op (cutL args (inL n)) = (formF op (args.map List.length)).2 := by rw [apply_form, hlens]
        have hcl := cutL_len args (inL n)
        have hb : ∀ l ∈ (cutL args (inL n)).flatten, has (S0 n) l := fun l hl => hin1 l (cutL_mem hl)
        have hll : ∀ l ∈ cutL args (inL n), l.length ≤ 1000000000 := fun l hl => by
          obtain ⟨j, hj, rfl⟩ := List.getElem_of_mem hl
          rw [cutL_at (by omega), List.length_take]
          have := hall _ (List.getElem_mem (show j < args.length by omega))
          omega
        have hcirc : (formF op (args.map List.length)).2 = 0 → operateF op (((cutL args (inL n)).headD []).map (litv (vals (S0 n) args.flatten))) (((cutL args (inL n)).getLastD []).map (litv (vals (S0 n) args.flatten))) = (dF op args).1 := fun h0 => by
          rw [headD_map (List.map (litv (vals (S0 n) args.flatten))), lastD_map (List.map (litv (vals (S0 n) args.flatten)))]
          show operateF op (((cutL args (inL n)).map (·.map (litv (vals (S0 n) args.flatten)))).headD []) (((cutL args (inL n)).map (·.map (litv (vals (S0 n) args.flatten)))).getLastD []) = _
          rw [cutL_map hin, circ_law h0]
        refine g_call (Hin := []) (Hr := ?hr4) (R := ?rr4) rfl rfl rfl ?hin4 ?hc4 ?hk4
        case hin4 => repeat' (first | exact Cover.nil | exact Take.here | apply Cover.cons | apply Take.there)
        case hc4 => intro ρ' hρ hR; exact glen_ok p (S0 n) (Take.ro (A := Gr p (S0 n)) (by repeat' (first | exact Take.here | apply Take.there)) hR)
        rintro _ _ ⟨rfl, rfl⟩
        refine g_pure (p_assign rfl) rfl ?_
        refine g_nil ?_
        refine g_qt ?_
        refine g_seq ?_
        by_cases h0 : (formF op (args.map List.length)).2 = 0
        · have hd2 : (dF op args).2 = 0 := by unfold dF; rw [if_pos h0]
          have hc := hcirc h0
          refine g_region ?_
          refine g_pure (p_move rfl) rfl ?_
          refine g_pure (p_move rfl) rfl ?_
          refine g_pure (p_move rfl) rfl ?_
          refine g_call (Hin := [Gr p (S0 n)]) (Hr := ?hr5) (R := ?rr5) rfl rfl rfl ?hin5 ?hc5 ?hk5
          case hin5 => repeat' (first | exact Cover.nil | exact Take.here | apply Cover.cons | apply Take.there)
          case hc5 => intro ρ' hρ hR; exact (by have := bapply_yes (ρ := ρ') (cl := oc) p op hw0 (by omega) (hds.rows (l := inL n) (by omega) (by rw [hil]; exact RSl.of_own (Take.ro (A := OwnSl 27 1 la n lc ((inL n).map encI)) (by repeat' (first | exact Take.here | apply Take.there)) hR)) (RSl.of_own (Take.ro (A := OwnSl 26 1 oa args.length oc hs) (by repeat' (first | exact Take.here | apply Take.there)) hR))) (by omega) hll hb (by rw [happ]; exact h0); rw [hcl] at this; exact this)
          rintro _ _ ⟨a2, c2, out, T, rfl, rfl, u, d⟩
          refine g_pure (p_move rfl) rfl ?_
          refine g_pure (p_extract rfl rfl) rfl ?_
          refine g_pure (p_extract rfl rfl) rfl ?_
          refine g_pure (p_assign rfl) rfl ?_
          refine g_pure (p_assign rfl) rfl ?_
          refine g_nil ?_
          refine g_qt ?_
          refine g_seq ?_
          refine g_region ?_
          refine g_pure (p_move rfl) rfl ?_
          refine g_pure (p_move rfl) rfl ?_
          refine g_call (Hin := []) (Hr := ?hr6) (R := ?rr6) rfl rfl rfl ?hin6 ?hc6 ?hk6
          case hin6 => repeat' (first | exact Cover.nil | exact Take.here | apply Cover.cons | apply Take.there)
          case hc6 => intro ρ' hρ hR; exact dapply38_ok op (hr.mono hρ) (by omega) (fun x hx => by have := hall x hx; omega)
          rintro _ _ ⟨wa, wc, rfl, rfl⟩
          have hout : out.length = (dF op args).1.length := by have := d.len args.flatten; rw [← this]; exact congrArg List.length hc
          have hev : eval1 T args.flatten out = ((dF op args).1, 0) := by rw [eval_up u hnn d]; exact congrArg (·, (0 : Int)) hc
          rw [hd2]
          refine g_pure (p_move rfl) rfl ?_
          refine g_pure (p_extract rfl rfl) rfl ?_
          refine g_pure (p_extract rfl rfl) rfl ?_
          refine g_pure (p_assign rfl) rfl ?_
          refine g_pure (p_assign rfl) rfl ?_
          refine g_nil ?_
          refine g_qt ?_
          refine g_seq ?_
          refine g_seq ?_
          refine g_region ?_
          refine g_pure (p_move rfl) rfl ?_
          refine g_pure (p_move rfl) rfl ?_
          refine g_pure (p_neqF rfl rfl rfl) rfl ?_
          refine g_pure (p_move rfl) rfl ?_
          refine g_yes rfl rfl ?_
          refine g_pure (p_move rfl) rfl ?_
          refine g_yes rfl rfl ?_
          refine g_pure (p_len (by rfl) rfl) rfl ?_
          refine g_yes rfl rfl ?_
          refine g_pure (p_move rfl) rfl ?_
          refine g_yes rfl rfl ?_
          refine g_pure (p_len (by rfl) rfl) rfl ?_
          refine g_yes rfl rfl ?_
          refine g_pure (p_neqF rfl rfl (by rw [hout])) rfl ?_
          first | refine g_pure (p_pickt rfl rfl) rfl ?_ | refine g_pure (p_pickf rfl rfl) rfl ?_
          refine g_nil ?_
          refine g_qt ?_
          refine g_iff rfl ?_
          refine g_skip ?_
          refine g_qt ?_
          refine g_seq ?_
          refine g_seq ?_
          refine g_region ?_
          refine g_pure (p_move rfl) rfl ?_
          refine g_pure (p_neqF rfl rfl rfl) rfl ?_
          refine g_nil ?_
          refine g_qt ?_
          refine g_iff rfl ?_
          refine g_skip ?_
          refine g_qt ?_
          refine g_seq ?_
          refine g_region ?_
          refine g_pure (p_move rfl) rfl ?_
          refine g_pure (p_move rfl) rfl ?_
          refine g_pure (p_move rfl) rfl ?_
          refine g_call (Hin := []) (Hr := ?hr7) (R := ?rr7) rfl rfl rfl ?hin7 ?hc7 ?hk7
          case hin7 => repeat' (first | exact Cover.nil | exact Take.here | apply Cover.cons | apply Take.there)
          case hc7 => intro ρ' hρ hR; exact (by have := eval_at (ρ := ρ') (p := p) (ia := ia) (ic := ic) (al := a2) (cl := c2) hev (by rw [hnn]; exact RSl.of_own (Take.ro (A := OwnSl 4 1 ia n ic (args.flatten.map encB)) (by repeat' (first | exact Take.here | apply Take.there)) hR)) (RSl.of_own (Take.ro (A := OwnSl 27 1 a2 out.length c2 (out.map encI)) (by repeat' (first | exact Take.here | apply Take.there)) hR)) (by have := offs_le args 0; rw [hout]; unfold dF; rw [if_pos h0, bitsR_len]; unfold outF; split <;> omega) (by omega) (i64_of u.wf d) (Take.ro (A := Gr p T) (by repeat' (first | exact Take.here | apply Take.there)) hR); rw [hnn] at this; exact this)
          rintro _ _ ⟨va, vc, rfl, rfl⟩
          refine g_pure (p_move rfl) rfl ?_
          refine g_pure (p_extract rfl rfl) rfl ?_
          refine g_pure (p_extract rfl rfl) rfl ?_
          refine g_pure (p_assign rfl) rfl ?_
          refine g_pure (p_assign rfl) rfl ?_
          refine g_nil ?_
          refine g_qt ?_
          refine g_seq ?_
          refine g_region ?_
          refine g_pure (p_move rfl) rfl ?_
          refine g_pure (p_eqlT rfl rfl rfl) rfl ?_
          refine g_pure (p_move rfl) rfl ?_
          refine g_yes rfl rfl ?_
          refine g_pure (p_move rfl) rfl ?_
          refine g_yes rfl rfl ?_
          refine g_pure (p_move rfl) rfl ?_
          refine g_yes rfl rfl ?_
          refine g_call (Hin := []) (Hr := ?hr8) (R := ?rr8) rfl rfl rfl ?hin8 ?hc8 ?hk8
          case hin8 => repeat' (first | exact Cover.nil | exact Take.here | apply Cover.cons | apply Take.there)
          case hc8 => intro ρ' hρ hR; exact bools38_ok (RSl.of_own (Take.ro (A := OwnSl 4 1 va (dF op args).1.length vc ((dF op args).1.map encB)) (by repeat' (first | exact Take.here | apply Take.there)) hR)) (RSl.of_own (Take.ro (A := OwnSl 4 1 wa (dF op args).1.length wc ((dF op args).1.map encB)) (by repeat' (first | exact Take.here | apply Take.there)) hR)) (by unfold dF; rw [if_pos h0, bitsR_len]; unfold outF; split <;> omega) rfl
          rintro _ _ ⟨rfl, rfl⟩
          first | refine g_pure (p_pickt rfl rfl) rfl ?_ | refine g_pure (p_pickf rfl rfl) rfl ?_
          refine g_pure (p_move rfl) rfl ?_
          refine g_yes rfl rfl ?_
          refine g_call (Hin := []) (Hr := ?hr9) (R := ?rr9) rfl rfl rfl ?hin9 ?hc9 ?hk9
          case hin9 => repeat' (first | exact Cover.nil | exact Take.here | apply Cover.cons | apply Take.there)
          case hc9 => intro ρ' hρ hR; exact blives_ok
          rintro _ _ ⟨rfl, rfl⟩
          first | refine g_pure (p_pickt rfl rfl) rfl ?_ | refine g_pure (p_pickf rfl rfl) rfl ?_
          refine g_pure (p_assign rfl) rfl ?_
          refine g_nil ?_
          refine g_qt ?_
          refine g_ret ?_
          exact g_post (Ho := []) (rs := [.tmp 4]) rfl (.tmp rfl .nil) rfl .nil
        · have hd : dF op args = ([], (formF op (args.map List.length)).2) := by unfold dF; rw [if_neg h0]
          refine g_region ?_
          refine g_pure (p_move rfl) rfl ?_
          refine g_pure (p_move rfl) rfl ?_
          refine g_pure (p_move rfl) rfl ?_
          refine g_call (Hin := [Gr p (S0 n)]) (Hr := ?hr10) (R := ?rr10) rfl rfl rfl ?hin10 ?hc10 ?hk10
          case hin10 => repeat' (first | exact Cover.nil | exact Take.here | apply Cover.cons | apply Take.there)
          case hc10 => intro ρ' hρ hR; exact (by have := bapply_no (ρ := ρ') (cl := oc) p op hw0 (by omega) (hds.rows (l := inL n) (by omega) (by rw [hil]; exact RSl.of_own (Take.ro (A := OwnSl 27 1 la n lc ((inL n).map encI)) (by repeat' (first | exact Take.here | apply Take.there)) hR)) (RSl.of_own (Take.ro (A := OwnSl 26 1 oa args.length oc hs) (by repeat' (first | exact Take.here | apply Take.there)) hR))) (by omega) hll hb (by rw [happ]; exact h0); rw [hcl, happ] at this; exact this)
          rintro _ _ ⟨rfl, rfl⟩
          refine g_pure (p_move rfl) rfl ?_
          refine g_pure (p_extract rfl rfl) rfl ?_
          refine g_pure (p_extract rfl rfl) rfl ?_
          refine g_pure (p_assign rfl) rfl ?_
          refine g_pure (p_assign rfl) rfl ?_
          refine g_nil ?_
          refine g_qt ?_
          refine g_seq ?_
          refine g_region ?_
          refine g_pure (p_move rfl) rfl ?_
          refine g_pure (p_move rfl) rfl ?_
          refine g_call (Hin := []) (Hr := ?hr11) (R := ?rr11) rfl rfl rfl ?hin11 ?hc11 ?hk11
          case hin11 => repeat' (first | exact Cover.nil | exact Take.here | apply Cover.cons | apply Take.there)
          case hc11 => intro ρ' hρ hR; exact (by have := dapply38_ok (ρ := ρ') (ac := ac) op (hr.mono hρ) (by omega) (fun x hx => by have := hall x hx; omega); rw [hd] at this; exact this)
          rintro _ _ ⟨wa, wc, rfl, rfl⟩
          refine g_pure (p_move rfl) rfl ?_
          refine g_pure (p_extract rfl rfl) rfl ?_
          refine g_pure (p_extract rfl rfl) rfl ?_
          refine g_pure (p_assign rfl) rfl ?_
          refine g_pure (p_assign rfl) rfl ?_
          refine g_nil ?_
          refine g_qt ?_
          refine g_seq ?_
          refine g_seq ?_
          refine g_region ?_
          refine g_pure (p_move rfl) rfl ?_
          refine g_pure (p_move rfl) rfl ?_
          refine g_pure (p_neqF rfl rfl rfl) rfl ?_
          refine g_pure (p_move rfl) rfl ?_
          refine g_yes rfl rfl ?_
          refine g_pure (p_move rfl) rfl ?_
          refine g_yes rfl rfl ?_
          refine g_pure (p_len (by rfl) rfl) rfl ?_
          refine g_yes rfl rfl ?_
          refine g_pure (p_move rfl) rfl ?_
          refine g_yes rfl rfl ?_
          refine g_pure (p_len (by rfl) rfl) rfl ?_
          refine g_yes rfl rfl ?_
          refine g_pure (p_neqF rfl rfl rfl) rfl ?_
          first | refine g_pure (p_pickt rfl rfl) rfl ?_ | refine g_pure (p_pickf rfl rfl) rfl ?_
          refine g_nil ?_
          refine g_qt ?_
          refine g_iff rfl ?_
          refine g_skip ?_
          refine g_qt ?_
          refine g_seq ?_
          refine g_seq ?_
          refine g_region ?_
          refine g_pure (p_move rfl) rfl ?_
          refine g_pure (p_neqT rfl rfl h0) rfl ?_
          refine g_nil ?_
          refine g_qt ?_
          refine g_ift rfl ?_
          refine g_seq ?_
          refine g_region ?_
          refine g_pure (p_move rfl) rfl ?_
          refine g_call (Hin := []) (Hr := ?hr12) (R := ?rr12) rfl rfl rfl ?hin12 ?hc12 ?hk12
          case hin12 => repeat' (first | exact Cover.nil | exact Take.here | apply Cover.cons | apply Take.there)
          case hc12 => intro ρ' hρ hR; exact glen_ok p (S0 n) (Take.ro (A := Gr p (S0 n)) (by repeat' (first | exact Take.here | apply Take.there)) hR)
          rintro _ _ ⟨rfl, rfl⟩
          refine g_pure (p_move rfl) rfl ?_
          refine g_pure (p_eqlT rfl rfl rfl) rfl ?_
          refine g_pure (p_move rfl) rfl ?_
          refine g_yes rfl rfl ?_
          refine g_call (Hin := []) (Hr := ?hr13) (R := ?rr13) rfl rfl rfl ?hin13 ?hc13 ?hk13
          case hin13 => repeat' (first | exact Cover.nil | exact Take.here | apply Cover.cons | apply Take.there)
          case hc13 => intro ρ' hρ hR; exact blives_ok
          rintro _ _ ⟨rfl, rfl⟩
          first | refine g_pure (p_pickt rfl rfl) rfl ?_ | refine g_pure (p_pickf rfl rfl) rfl ?_
          refine g_pure (p_assign rfl) rfl ?_
          refine g_nil ?_
          refine g_qt ?_
          refine g_ret ?_
          refine g_qt_ret ?_
          exact g_post (Ho := []) (rs := [.tmp 4]) rfl (.tmp rfl .nil) rfl .nil
end Go.Proofs.Ytkebblmmgcgjkaa
