/- Chapter 38: widths of types, bits of values, values of bits; the document's side. Conditions: none. -/
import Derived.Test.YtkebblmmgcgjkaaJ9
import Derived.Test.YtkebblmmgcgjkaaG3
namespace Go.Z.Bit
set_option maxRecDepth 8000
set_option linter.unusedVariables false
set_option linter.unusedSimpArgs false
set_option linter.unusedSectionVars false
open Go Go.Z Go.Z.Val Go.Z.Aig
def widthN (l : List En) (t : Int) : Nat := if t = 1 then 1 else if t = 2 then 16 else if tagN l t < 1 ∨ 16 < tagN l t then 0 else if tagN l t ≤ 2 then 1 else if tagN l t ≤ 4 then 2 else if tagN l t ≤ 8 then 3 else 4
theorem widthN_le (l : List En) (t : Int) : widthN l t ≤ 16 := by unfold widthN; (repeat' split) <;> omega
theorem widthN_16 {l : List En} {t : Int} : widthN l t = 16 ↔ t = 2 := by unfold widthN; (repeat' split) <;> omega
theorem wrap_small {P : Nat} (h : P ≤ 1099511627776) : IntKind.i64.wrap (P : Int) = P := i64_in (by omega) (by omega)
theorem shl1 {m : Nat} (h : m ≤ 40) : IntKind.i64.wrap (1 * 2 ^ (min ((m : Nat) : Int).toNat IntKind.i64.bits)) = ((2 ^ m : Nat) : Int) := by
  have e : min ((m : Nat) : Int).toNat IntKind.i64.bits = m := by rw [Int.toNat_natCast]; exact Nat.min_eq_left (by show m ≤ 64; omega)
  have h2 : (2 : Nat) ^ m ≤ 2 ^ 40 := Nat.pow_le_pow_right (by decide) h
  have h3 : (2 : Nat) ^ 40 = 1099511627776 := by decide
  have e2 : (2 : Int) ^ m = ((2 ^ m : Nat) : Int) := by rw [Int.natCast_pow]; rfl
  rw [e, Int.one_mul, e2]
  exact wrap_small (by rw [← h3]; exact h2)
theorem width_end {l : List En} {t : Int} {w : Nat} (h1 : ¬ t = 2) (hn : 1 ≤ tagN l t ∧ tagN l t ≤ 16) (hw : 1 ≤ w ∧ w ≤ 5) (hb : w = 1 ∨ ((2 ^ (w - 1) : Nat) : Int) < tagN l t) (he : ¬ ((2 ^ w : Nat) : Int) < tagN l t) : widthN l t = w := by
  have h0 : t = 1 → tagN l t = 2 := fun e => by unfold tagN; rw [if_pos e]
  have hw' : w = 1 ∨ w = 2 ∨ w = 3 ∨ w = 4 ∨ w = 5 := by omega
  unfold widthN
  generalize tagN l t = T at *
  by_cases h : t = 1
  · have := h0 h
    rw [if_pos h]
    rcases hw' with rfl | rfl | rfl | rfl | rfl <;> simp at hb he <;> omega
  · rw [if_neg h, if_neg h1, if_neg (by omega)]
    rcases hw' with rfl | rfl | rfl | rfl | rfl <;> simp at hb he <;> (repeat' split) <;> omega
def constF (l : List En) (t v : Int) : List Bool × Int := if widthN l t = 0 then ([], 10) else if tyHas l t v then (bitsR (widthN l t) v, 0) else ([], 14)
def valueF (l : List En) (t : Int) (b : List Bool) : Int × Int := if widthN l t = 0 then (0, 10) else if b.length ≠ widthN l t then (0, 16) else if tyHas l t (sg b) then (sg b, 0) else (0, 14)
theorem num_drop {l : List Bool} {k : Nat} (h : k < l.length) : num (l.drop k) = (l.getD k false).toNat + 2 * num (l.drop (k + 1)) := by
  rw [drop_getD h, num]
theorem num_small {l : List Bool} (h : l.length ≤ 40) : num l < 1099511627776 := by
  have h1 := num_lt l
  have h2 : (2 : Nat) ^ l.length ≤ 2 ^ 40 := Nat.pow_le_pow_right (by decide) h
  have h3 : (2 : Nat) ^ 40 = 1099511627776 := by decide
  omega
end Go.Z.Bit
namespace Go.Proofs.Ytkebblmmgcgjkaa
set_option maxRecDepth 8000
set_option linter.unusedVariables false
set_option linter.unusedSimpArgs false
set_option linter.unusedSectionVars false
open Go Go.Z Go.Z.Val Go.Z.Aig Go.Z.Bit

variable {ρ : Nat → Obj → Prop} {ea : Option Addr} {ec : Nat} {es : List En}
theorem shas_ok (h : EnR ρ ea es) (hl : es.length ≤ maxLen) (t v : Int) (ht : I64 t) : Con Try.prog ρ 57 #[.slice ea es.length ec, .int .i64 t, .int .i64 v] [] (fun u H => u = .bool (decide (tyHas es t v)) ∧ H = []) := by
  refine con_intro Try.func57 Try.call57 rfl Try.ntmps57 rfl (L := [(0, _), (1, _), (2, _)]) rfl fun w hh => ?_
  refine g_seq ?_
  refine g_region ?_
  refine g_pure (p_assign rfl) rfl ?_
  refine g_nil ?_
  refine g_qt ?_
  refine g_seq ?_
  refine g_seq ?_
  refine g_region ?_
  refine g_pure (p_move rfl) rfl ?_
  refine g_pure (p_eql rfl rfl) rfl ?_
  refine g_nil ?_
  refine g_qt ?_
  refine g_ifdL rfl (fun h1 => ?_) (fun h1 => ?_)
  · refine g_seq ?_
    refine g_region ?_
    refine g_pure (p_move rfl) rfl ?_
    refine g_pure (p_geq rfl rfl) rfl ?_
    refine g_pure (p_move rfl) rfl ?_
    refine g_splitd rfl rfl (fun h2 => ?_) (fun h2 => ?_)
    · refine g_yes rfl rfl ?_
      refine g_pure (p_move rfl) rfl ?_
      refine g_yes rfl rfl ?_
      refine g_pure (p_leq rfl rfl) rfl ?_
      first | refine g_pure (p_pickt rfl rfl) rfl ?_ | refine g_pure (p_pickf rfl rfl) rfl ?_
      refine g_pure (p_assign rfl) rfl ?_
      refine g_nil ?_
      refine g_qt ?_
      refine g_ret ?_
      refine g_qt_ret ?_
      exact g_post (Ho := []) (rs := [.tmp 6]) rfl (.tmp rfl .nil) ⟨by show Value.bool _ = Value.bool _; congr 1; first | (rw [eq_comm, decide_eq_false_iff_not]; unfold tyHas; first | (rw [if_pos (by omega)]; omega) | (rw [if_neg (by omega)]; omega)) | (rw [decide_eq_decide]; unfold tyHas; first | (rw [if_pos (by omega)]; omega) | (rw [if_neg (by omega)]; omega)), rfl⟩ (by repeat' (first | exact Cover.nil | exact Take.here | apply Cover.cons | apply Take.there))
    · refine g_no rfl rfl rfl rfl ?_
      refine g_no rfl rfl rfl rfl ?_
      first | refine g_pure (p_pickt rfl rfl) rfl ?_ | refine g_pure (p_pickf rfl rfl) rfl ?_
      refine g_pure (p_assign rfl) rfl ?_
      refine g_nil ?_
      refine g_qt ?_
      refine g_ret ?_
      refine g_qt_ret ?_
      exact g_post (Ho := []) (rs := [.tmp 6]) rfl (.tmp rfl .nil) ⟨by show Value.bool _ = Value.bool _; congr 1; first | (rw [eq_comm, decide_eq_false_iff_not]; unfold tyHas; first | (rw [if_pos (by omega)]; omega) | (rw [if_neg (by omega)]; omega)) | (rw [decide_eq_decide]; unfold tyHas; first | (rw [if_pos (by omega)]; omega) | (rw [if_neg (by omega)]; omega)), rfl⟩ (by repeat' (first | exact Cover.nil | exact Take.here | apply Cover.cons | apply Take.there))
  · refine g_skip ?_
    refine g_qt ?_
    refine g_seq ?_
    refine g_region ?_
    refine g_pure (p_move rfl) rfl ?_
    refine g_pure (p_geq rfl rfl) rfl ?_
    refine g_pure (p_move rfl) rfl ?_
    refine g_splitd rfl rfl (fun h3 => ?_) (fun h3 => ?_)
    · refine g_yes rfl rfl ?_
      refine g_pure (p_move rfl) rfl ?_
      refine g_yes rfl rfl ?_
      refine g_pure (p_move rfl) rfl ?_
      refine g_yes rfl rfl ?_
      refine g_pure (p_move rfl) rfl ?_
      refine g_yes rfl rfl ?_
      refine g_call (Hin := []) (Hr := ?hr1) (R := ?rr1) rfl rfl rfl ?hin1 ?hc1 ?hk1
      case hin1 => repeat' (first | exact Cover.nil | exact Take.here | apply Cover.cons | apply Take.there)
      case hc1 => intro ρ' hρ hR; exact dsize_ok (h.mono hρ) hl t ht
      rintro _ _ ⟨rfl, rfl⟩
      refine g_yes rfl rfl ?_
      refine g_pure (p_lss rfl rfl) rfl ?_
      first | refine g_pure (p_pickt rfl rfl) rfl ?_ | refine g_pure (p_pickf rfl rfl) rfl ?_
      refine g_pure (p_assign rfl) rfl ?_
      refine g_nil ?_
      refine g_qt ?_
      refine g_ret ?_
      exact g_post (Ho := []) (rs := [.tmp 6]) rfl (.tmp rfl .nil) ⟨by show Value.bool _ = Value.bool _; congr 1; first | (rw [eq_comm, decide_eq_false_iff_not]; unfold tyHas; first | (rw [if_pos (by omega)]; omega) | (rw [if_neg (by omega)]; omega)) | (rw [decide_eq_decide]; unfold tyHas; first | (rw [if_pos (by omega)]; omega) | (rw [if_neg (by omega)]; omega)), rfl⟩ (by repeat' (first | exact Cover.nil | exact Take.here | apply Cover.cons | apply Take.there))
    · refine g_no rfl rfl rfl rfl ?_
      refine g_no rfl rfl rfl rfl ?_
      refine g_no rfl rfl rfl rfl ?_
      refine g_no rfl rfl rfl rfl ?_
      refine g_no rfl rfl rfl rfl ?_
      first | refine g_pure (p_pickt rfl rfl) rfl ?_ | refine g_pure (p_pickf rfl rfl) rfl ?_
      refine g_pure (p_assign rfl) rfl ?_
      refine g_nil ?_
      refine g_qt ?_
      refine g_ret ?_
      exact g_post (Ho := []) (rs := [.tmp 6]) rfl (.tmp rfl .nil) ⟨by show Value.bool _ = Value.bool _; congr 1; first | (rw [eq_comm, decide_eq_false_iff_not]; unfold tyHas; first | (rw [if_pos (by omega)]; omega) | (rw [if_neg (by omega)]; omega)) | (rw [decide_eq_decide]; unfold tyHas; first | (rw [if_pos (by omega)]; omega) | (rw [if_neg (by omega)]; omega)), rfl⟩ (by repeat' (first | exact Cover.nil | exact Take.here | apply Cover.cons | apply Take.there))

theorem width_ok (h : EnR ρ ea es) (hl : es.length ≤ maxLen) (t : Int) (ht : I64 t) : Con Try.prog ρ 23 #[.slice ea es.length ec, .int .i64 t] [] (fun u H => u = .int .i64 (widthN es t : Nat) ∧ H = []) := by
  have hn := tagN_in (t := t) (fun e he => (h.2 e he).2.2.2)
  refine con_intro Try.func23 Try.call23 rfl Try.ntmps23 rfl (L := [(0, _), (1, _)]) rfl fun w hh => ?_
  refine g_seq ?_
  refine g_region ?_
  refine g_pure (p_assign rfl) rfl ?_
  refine g_nil ?_
  refine g_qt ?_
  refine g_seq ?_
  refine g_region ?_
  refine g_pure (p_move rfl) rfl ?_
  refine g_pure (p_move rfl) rfl ?_
  refine g_call (Hin := []) (Hr := ?hr2) (R := ?rr2) rfl rfl rfl ?hin2 ?hc2 ?hk2
  case hin2 => repeat' (first | exact Cover.nil | exact Take.here | apply Cover.cons | apply Take.there)
  case hc2 => intro ρ' hρ hR; exact size_ok (h.mono hρ) hl t ht
  rintro _ _ ⟨rfl, rfl⟩
  refine g_pure (p_assign rfl) rfl ?_
  refine g_nil ?_
  refine g_qt ?_
  refine g_seq ?_
  refine g_block ?_
  refine g_seq ?_
  refine g_region ?_
  refine g_pure (p_move rfl) rfl ?_
  refine g_pure (p_eql rfl rfl) rfl ?_
  refine g_pure (p_assign rfl) rfl ?_
  refine g_nil ?_
  refine g_qt ?_
  refine g_ifd rfl (fun a1 => ?_) (fun a1 => ?_)
  · refine g_seq ?_
    refine g_region ?_
    refine g_pure (p_assign rfl) rfl ?_
    refine g_nil ?_
    refine g_qt ?_
    refine g_ret ?_
    refine g_qb_ret ?_
    refine g_qt_ret ?_
    exact g_post (Ho := []) (rs := [.tmp 4]) rfl (.tmp rfl .nil) ⟨by unfold widthN; rw [if_pos a1]; rfl, rfl⟩ (by repeat' (first | exact Cover.nil | exact Take.here | apply Cover.cons | apply Take.there))
  · refine g_seq ?_
    refine g_region ?_
    refine g_pure (p_move rfl) rfl ?_
    refine g_pure (p_eql rfl rfl) rfl ?_
    refine g_pure (p_assign rfl) rfl ?_
    refine g_nil ?_
    refine g_qt ?_
    refine g_ifd rfl (fun a2 => ?_) (fun a2 => ?_)
    · refine g_seq ?_
      refine g_region ?_
      refine g_pure (p_assign rfl) rfl ?_
      refine g_nil ?_
      refine g_qt ?_
      refine g_ret ?_
      refine g_qb_ret ?_
      refine g_qt_ret ?_
      exact g_post (Ho := []) (rs := [.tmp 4]) rfl (.tmp rfl .nil) ⟨by unfold widthN; rw [if_neg a1, if_pos a2]; rfl, rfl⟩ (by repeat' (first | exact Cover.nil | exact Take.here | apply Cover.cons | apply Take.there))
    · have hw : tagN es t < 1 ∨ 16 < tagN es t → widthN es t = 0 := fun h => by unfold widthN; rw [if_neg a1, if_neg a2, if_pos h]
      refine g_seq ?_
      refine g_region ?_
      refine g_pure (p_move rfl) rfl ?_
      refine g_pure (p_lss rfl rfl) rfl ?_
      refine g_pure (p_move rfl) rfl ?_
      refine g_splitd rfl rfl (fun a3 => ?_) (fun a3 => ?_)
      · refine g_no rfl rfl rfl rfl ?_
        refine g_no rfl rfl rfl rfl ?_
        first | refine g_pure (p_pickt rfl rfl) rfl ?_ | refine g_pure (p_pickf rfl rfl) rfl ?_
        refine g_pure (p_assign rfl) rfl ?_
        refine g_nil ?_
        refine g_qt ?_
        refine g_ift rfl ?_
        refine g_seq ?_
        refine g_region ?_
        refine g_pure (p_assign rfl) rfl ?_
        refine g_nil ?_
        refine g_qt ?_
        refine g_ret ?_
        refine g_qb_ret ?_
        refine g_qt_ret ?_
        exact g_post (Ho := []) (rs := [.tmp 4]) rfl (.tmp rfl .nil) ⟨by rw [hw (.inl a3)]; rfl, rfl⟩ (by repeat' (first | exact Cover.nil | exact Take.here | apply Cover.cons | apply Take.there))
      · refine g_yes rfl rfl ?_
        refine g_pure (p_move rfl) rfl ?_
        refine g_yes rfl rfl ?_
        refine g_pure (p_gtr rfl rfl) rfl ?_
        first | refine g_pure (p_pickt rfl rfl) rfl ?_ | refine g_pure (p_pickf rfl rfl) rfl ?_
        refine g_pure (p_assign rfl) rfl ?_
        refine g_nil ?_
        refine g_qt ?_
        refine g_ifd rfl (fun a4 => ?_) (fun a4 => ?_)
        · refine g_seq ?_
          refine g_region ?_
          refine g_pure (p_assign rfl) rfl ?_
          refine g_nil ?_
          refine g_qt ?_
          refine g_ret ?_
          refine g_qb_ret ?_
          refine g_qt_ret ?_
          exact g_post (Ho := []) (rs := [.tmp 4]) rfl (.tmp rfl .nil) ⟨by rw [hw (.inr a4)]; rfl, rfl⟩ (by repeat' (first | exact Cover.nil | exact Take.here | apply Cover.cons | apply Take.there))
        · refine g_skip ?_
          refine g_qb ?_
          refine g_qt ?_
          refine g_seq ?_
          refine g_region ?_
          refine g_pure (p_assign rfl) rfl ?_
          refine g_nil ?_
          refine g_qt ?_
          refine g_seq ?_
          refine g_block ?_
          refine g_loop (fun k : Nat => [(5, .int .i64 (tagN es t)), (6, .int .i64 k)]) (fun _ => []) (fun k => 1 ≤ k ∧ k ≤ 5 ∧ (k = 1 ∨ ((2 ^ (k - 1) : Nat) : Int) < tagN es t)) (fun k => 5 - k) 1 ⟨by omega, by omega, .inl rfl⟩ (by (repeat (first | exact trivial | refine ⟨by rfl, ?_⟩)); done) .nil ?_
          rintro k ⟨hk1, hk2, hk3⟩
          refine g_seq ?_
          refine g_seq ?_
          refine g_region ?_
          refine g_pure (p_move rfl) rfl ?_
          refine g_pure (p_shl rfl rfl (by omega)) rfl ?_
          refine g_pure (p_move rfl) rfl ?_
          refine g_pure (p_lss rfl rfl) rfl ?_
          refine g_nil ?_
          refine g_qt ?_
          refine g_ifd rfl (fun q => ?_) (fun q => ?_)
          · rw [shl1 (by omega)] at q
            have hk4 : k ≤ 4 := by
              apply Classical.byContradiction
              intro h5
              obtain rfl : k = 5 := by omega
              simp at q; omega
            refine g_skip ?_
            refine g_qt ?_
            refine g_block ?_
            refine g_region ?_
            refine g_pure (p_move rfl) rfl ?_
            first | refine g_pure (p_addi rfl rfl (by omega)) rfl ?_ | refine g_pure (p_add rfl rfl) rfl ?_
            refine g_pure (p_assign rfl) rfl ?_
            refine g_nil ?_
            refine g_qb ?_
            refine g_qn ?_
            exact g_next (k + 1) (by (repeat (first | exact trivial | refine ⟨by rfl, ?_⟩)); done) .nil ⟨by omega, by omega, .inr q⟩ (by omega)
          · rw [shl1 (by omega)] at q
            refine g_exit ?_
            refine g_qt_exit ?_
            refine g_qn_exit ?_
            refine g_qb_exit ?_
            refine g_qt ?_
            refine g_seq ?_
            refine g_region ?_
            refine g_pure (p_move rfl) rfl ?_
            refine g_pure (p_assign rfl) rfl ?_
            refine g_nil ?_
            refine g_qt ?_
            refine g_ret ?_
            exact g_post (Ho := []) (rs := [.tmp 4]) rfl (.tmp rfl .nil) ⟨by rw [width_end a2 (by omega) ⟨hk1, hk2⟩ hk3 q]; rfl, rfl⟩ (by repeat' (first | exact Cover.nil | exact Take.here | apply Cover.cons | apply Take.there))
theorem dwidth_ok (h : EnR ρ ea es) (hl : es.length ≤ maxLen) (t : Int) (ht : I64 t) : Con Try.prog ρ 24 #[.slice ea es.length ec, .int .i64 t] [] (fun u H => u = .int .i64 (widthN es t : Nat) ∧ H = []) := by
  have hn := tagN_in (t := t) (fun e he => (h.2 e he).2.2.2)
  refine con_intro Try.func24 Try.call24 rfl Try.ntmps24 rfl (L := [(0, _), (1, _)]) rfl fun w hh => ?_
  refine g_seq ?_
  refine g_region ?_
  refine g_pure (p_assign rfl) rfl ?_
  refine g_nil ?_
  refine g_qt ?_
  refine g_seq ?_
  refine g_region ?_
  refine g_pure (p_move rfl) rfl ?_
  refine g_pure (p_move rfl) rfl ?_
  refine g_call (Hin := []) (Hr := ?hr3) (R := ?rr3) rfl rfl rfl ?hin3 ?hc3 ?hk3
  case hin3 => repeat' (first | exact Cover.nil | exact Take.here | apply Cover.cons | apply Take.there)
  case hc3 => intro ρ' hρ hR; exact dsize_ok (h.mono hρ) hl t ht
  rintro _ _ ⟨rfl, rfl⟩
  refine g_pure (p_assign rfl) rfl ?_
  refine g_nil ?_
  refine g_qt ?_
  refine g_seq ?_
  refine g_seq ?_
  refine g_region ?_
  refine g_pure (p_move rfl) rfl ?_
  refine g_pure (p_eql rfl rfl) rfl ?_
  refine g_nil ?_
  refine g_qt ?_
  refine g_ifd rfl (fun a2 => ?_) (fun a2 => ?_)
  · refine g_seq ?_
    refine g_region ?_
    refine g_pure (p_assign rfl) rfl ?_
    refine g_nil ?_
    refine g_qt ?_
    refine g_ret ?_
    refine g_qt_ret ?_
    exact g_post (Ho := []) (rs := [.tmp 4]) rfl (.tmp rfl .nil) ⟨by rw [widthN_16.2 a2]; rfl, rfl⟩ (by repeat' (first | exact Cover.nil | exact Take.here | apply Cover.cons | apply Take.there))
  · have hw : tagN es t < 1 ∨ 16 < tagN es t → widthN es t = 0 := fun h => by
      have h0 : t = 1 → tagN es t = 2 := fun e => by unfold tagN; rw [if_pos e]
      unfold widthN; rw [if_neg (by omega), if_neg a2, if_pos h]
    refine g_skip ?_
    refine g_qt ?_
    refine g_seq ?_
    refine g_seq ?_
    refine g_region ?_
    refine g_pure (p_move rfl) rfl ?_
    refine g_pure (p_lss rfl rfl) rfl ?_
    refine g_pure (p_move rfl) rfl ?_
    refine g_splitd rfl rfl (fun a3 => ?_) (fun a3 => ?_)
    · refine g_no rfl rfl rfl rfl ?_
      refine g_no rfl rfl rfl rfl ?_
      first | refine g_pure (p_pickt rfl rfl) rfl ?_ | refine g_pure (p_pickf rfl rfl) rfl ?_
      refine g_nil ?_
      refine g_qt ?_
      refine g_ift rfl ?_
      refine g_seq ?_
      refine g_region ?_
      refine g_pure (p_assign rfl) rfl ?_
      refine g_nil ?_
      refine g_qt ?_
      refine g_ret ?_
      refine g_qt_ret ?_
      exact g_post (Ho := []) (rs := [.tmp 4]) rfl (.tmp rfl .nil) ⟨by rw [hw (.inl a3)]; rfl, rfl⟩ (by repeat' (first | exact Cover.nil | exact Take.here | apply Cover.cons | apply Take.there))
    · refine g_yes rfl rfl ?_
      refine g_pure (p_move rfl) rfl ?_
      refine g_yes rfl rfl ?_
      refine g_pure (p_gtr rfl rfl) rfl ?_
      first | refine g_pure (p_pickt rfl rfl) rfl ?_ | refine g_pure (p_pickf rfl rfl) rfl ?_
      refine g_nil ?_
      refine g_qt ?_
      refine g_ifd rfl (fun a4 => ?_) (fun a4 => ?_)
      · refine g_seq ?_
        refine g_region ?_
        refine g_pure (p_assign rfl) rfl ?_
        refine g_nil ?_
        refine g_qt ?_
        refine g_ret ?_
        refine g_qt_ret ?_
        exact g_post (Ho := []) (rs := [.tmp 4]) rfl (.tmp rfl .nil) ⟨by rw [hw (.inr a4)]; rfl, rfl⟩ (by repeat' (first | exact Cover.nil | exact Take.here | apply Cover.cons | apply Take.there))
      · refine g_skip ?_
        refine g_qt ?_
        refine g_seq ?_
        refine g_region ?_
        refine g_pure (p_assign rfl) rfl ?_
        refine g_nil ?_
        refine g_qt ?_
        refine g_seq ?_
        refine g_block ?_
        refine g_loop (fun k : Nat => [(5, .int .i64 (tagN es t)), (6, .int .i64 k)]) (fun _ => []) (fun k => 1 ≤ k ∧ k ≤ 5 ∧ (k = 1 ∨ ((2 ^ (k - 1) : Nat) : Int) < tagN es t)) (fun k => 5 - k) 1 ⟨by omega, by omega, .inl rfl⟩ (by (repeat (first | exact trivial | refine ⟨by rfl, ?_⟩)); done) .nil ?_
        rintro k ⟨hk1, hk2, hk3⟩
        refine g_seq ?_
        refine g_seq ?_
        refine g_region ?_
        refine g_pure (p_move rfl) rfl ?_
        refine g_pure (p_shl rfl rfl (by omega)) rfl ?_
        refine g_pure (p_move rfl) rfl ?_
        refine g_pure (p_lss rfl rfl) rfl ?_
        refine g_nil ?_
        refine g_qt ?_
        refine g_ifd rfl (fun q => ?_) (fun q => ?_)
        · rw [shl1 (by omega)] at q
          have hk4 : k ≤ 4 := by
            apply Classical.byContradiction
            intro h5
            obtain rfl : k = 5 := by omega
            simp at q; omega
          refine g_skip ?_
          refine g_qt ?_
          refine g_block ?_
          refine g_region ?_
          refine g_pure (p_move rfl) rfl ?_
          first | refine g_pure (p_addi rfl rfl (by omega)) rfl ?_ | refine g_pure (p_add rfl rfl) rfl ?_
          refine g_pure (p_assign rfl) rfl ?_
          refine g_nil ?_
          refine g_qb ?_
          refine g_qn ?_
          exact g_next (k + 1) (by (repeat (first | exact trivial | refine ⟨by rfl, ?_⟩)); done) .nil ⟨by omega, by omega, .inr q⟩ (by omega)
        · rw [shl1 (by omega)] at q
          refine g_exit ?_
          refine g_qt_exit ?_
          refine g_qn_exit ?_
          refine g_qb_exit ?_
          refine g_qt ?_
          refine g_seq ?_
          refine g_region ?_
          refine g_pure (p_move rfl) rfl ?_
          refine g_pure (p_assign rfl) rfl ?_
          refine g_nil ?_
          refine g_qt ?_
          refine g_ret ?_
          exact g_post (Ho := []) (rs := [.tmp 4]) rfl (.tmp rfl .nil) ⟨by rw [width_end a2 (by omega) ⟨hk1, hk2⟩ hk3 q]; rfl, rfl⟩ (by repeat' (first | exact Cover.nil | exact Take.here | apply Cover.cons | apply Take.there))

theorem const_ok (h : EnR ρ ea es) (hl : es.length ≤ maxLen) (t v : Int) (ht : I64 t) (hv : I64 v) : Con Try.prog ρ 21 #[.slice ea es.length ec, .int .i64 t, .int .i64 v] []
    (fun u H => ∃ a c, u = .tuple #[.slice a (constF es t v).1.length c, .int .i64 (constF es t v).2] ∧ H = [OwnSl 27 1 a (constF es t v).1.length c (((constF es t v).1.map lit1).map encI)]) := by
  refine con_intro Try.func21 Try.call21 rfl Try.ntmps21 rfl (L := [(0, _), (1, _), (2, _)]) rfl fun w hh => ?_
  refine g_seq ?_
  refine g_region ?_
  refine g_pure (p_assign rfl) rfl ?_
  refine g_pure (p_assign rfl) rfl ?_
  refine g_nil ?_
  refine g_qt ?_
  refine g_seq ?_
  refine g_region ?_
  refine g_pure (p_move rfl) rfl ?_
  refine g_pure (p_move rfl) rfl ?_
  refine g_call (Hin := []) (Hr := ?hr4) (R := ?rr4) rfl rfl rfl ?hin4 ?hc4 ?hk4
  case hin4 => repeat' (first | exact Cover.nil | exact Take.here | apply Cover.cons | apply Take.there)
  case hc4 => intro ρ' hρ hR; exact width_ok (h.mono hρ) hl t ht
  rintro _ _ ⟨rfl, rfl⟩
  refine g_pure (p_assign rfl) rfl ?_
  refine g_nil ?_
  refine g_qt ?_
  refine g_seq ?_
  refine g_seq ?_
  refine g_region ?_
  refine g_pure (p_move rfl) rfl ?_
  refine g_pure (p_eql rfl rfl) rfl ?_
  refine g_nil ?_
  refine g_qt ?_
  refine g_ifd rfl (fun a1 => ?_) (fun a1 => ?_)
  · refine g_seq ?_
    refine g_region ?_
    refine g_pure (p_assign rfl) rfl ?_
    refine g_pure (p_assign rfl) rfl ?_
    refine g_nil ?_
    refine g_qt ?_
    refine g_ret ?_
    refine g_qt_ret ?_
    refine g_ownnil (e := 27) (size := 1) ?_
    have e : constF es t v = ([], 10) := by unfold constF; rw [if_pos (by omega)]
    exact g_post (rs := [.tmp 6, .tmp 7]) rfl (.tmp rfl (.tmp rfl .nil)) ⟨none, 0, by rw [e]; rfl, by rw [e]⟩ (by repeat' (first | exact Cover.nil | exact Take.here | apply Cover.cons | apply Take.there))
  · refine g_skip ?_
    refine g_qt ?_
    refine g_seq ?_
    refine g_seq ?_
    refine g_region ?_
    refine g_pure (p_move rfl) rfl ?_
    refine g_pure (p_move rfl) rfl ?_
    refine g_pure (p_move rfl) rfl ?_
    refine g_call (Hin := []) (Hr := ?hr5) (R := ?rr5) rfl rfl rfl ?hin5 ?hc5 ?hk5
    case hin5 => repeat' (first | exact Cover.nil | exact Take.here | apply Cover.cons | apply Take.there)
    case hc5 => intro ρ' hρ hR; exact vhas_ok (h.mono hρ) hl t v ht
    rintro _ _ ⟨rfl, rfl⟩
    refine g_pure (p_not rfl) rfl ?_
    refine g_nil ?_
    refine g_qt ?_
    by_cases hh : tyHas es t v
    · rw [decide_eq_true hh]
      refine g_iff rfl ?_
      refine g_skip ?_
      refine g_qt ?_
      refine g_seq ?_
      refine g_region ?_
      refine g_pure (p_move rfl) rfl ?_
      refine g_pure (p_move rfl) rfl ?_
      have e : constF es t v = (bitsR (widthN es t) v, 0) := by unfold constF; rw [if_neg (by omega), if_pos hh]
      have hwl := widthN_le es t
      refine g_call (Hin := []) (Hr := ?hr6) (R := ?rr6) rfl rfl rfl ?hin6 ?hc6 ?hk6
      case hin6 => repeat' (first | exact Cover.nil | exact Take.here | apply Cover.cons | apply Take.there)
      case hc6 => intro ρ' hρ hR; exact constant_ok (widthN es t) v (by omega) hv
      rintro _ _ ⟨a, c, rfl, rfl⟩
      refine g_pure (p_assign rfl) rfl ?_
      refine g_pure (p_assign rfl) rfl ?_
      refine g_nil ?_
      refine g_qt ?_
      refine g_ret ?_
      exact g_post (Ho := [OwnSl 27 1 a (widthN es t) c (((bitsR (widthN es t) v).map lit1).map encI)]) (rs := [.tmp 6, .tmp 7]) rfl (.tmp rfl (.tmp rfl .nil)) ⟨a, c, by rw [e, bitsR_len]; rfl, by rw [e, bitsR_len]⟩ (by repeat' (first | exact Cover.nil | exact Take.here | apply Cover.cons | apply Take.there))
    · rw [decide_eq_false hh]
      refine g_ift rfl ?_
      refine g_seq ?_
      refine g_region ?_
      refine g_pure (p_assign rfl) rfl ?_
      refine g_pure (p_assign rfl) rfl ?_
      refine g_nil ?_
      refine g_qt ?_
      refine g_ret ?_
      refine g_qt_ret ?_
      refine g_ownnil (e := 27) (size := 1) ?_
      have e : constF es t v = ([], 14) := by unfold constF; rw [if_neg (by omega), if_neg hh]
      exact g_post (rs := [.tmp 6, .tmp 7]) rfl (.tmp rfl (.tmp rfl .nil)) ⟨none, 0, by rw [e]; rfl, by rw [e]⟩ (by repeat' (first | exact Cover.nil | exact Take.here | apply Cover.cons | apply Take.there))

theorem dbits_ok (v : Int) (hv : I64 v) (n : Nat) (hn : n ≤ 64) : Con Try.prog ρ 33 #[.int .i64 v, .int .i64 n] [] (fun u H => ∃ a c, u = .slice a n c ∧ H = [OwnSl 4 1 a n c ((bitsR n v).map encB)]) := by
  refine con_intro Try.func33 Try.call33 rfl Try.ntmps33 rfl (L := [(0, _), (1, _)]) rfl fun w hh => ?_
  refine g_seq ?_
  refine g_region ?_
  refine g_pure (p_assign rfl) rfl ?_
  refine g_nil ?_
  refine g_qt ?_
  refine g_seq ?_
  refine g_region ?_
  refine g_pure (p_assign rfl) rfl ?_
  refine g_nil ?_
  refine g_qt ?_
  refine g_seq ?_
  refine g_seq ?_
  refine g_region ?_
  refine g_pure (p_assign rfl) rfl ?_
  refine g_nil ?_
  refine g_qt ?_
  refine g_block ?_
  refine g_ownnil (e := 4) (size := 1) ?_
  refine g_loop (fun q : Nat × Option Addr × Nat => [(0, .int .i64 v), (1, .int .i64 n), (5, .slice q.2.1 q.1 q.2.2), (6, .int .i64 q.1)])
    (fun q => [OwnSl 4 1 q.2.1 q.1 q.2.2 ((bitsR q.1 v).map encB)]) (fun q => q.1 ≤ n) (fun q => n - q.1) (0, none, 0) (Nat.zero_le _) (by (repeat (first | exact trivial | refine ⟨by rfl, ?_⟩)); done) (by repeat' (first | exact Cover.nil | exact Take.here | apply Cover.cons | apply Take.there)) ?_
  rintro ⟨k, oa, oc⟩ hk
  dsimp only at hk ⊢
  refine g_seq ?_
  refine g_seq ?_
  refine g_region ?_
  refine g_pure (p_move rfl) rfl ?_
  refine g_pure (p_move rfl) rfl ?_
  refine g_pure (p_lss rfl rfl) rfl ?_
  refine g_nil ?_
  refine g_qt ?_
  refine g_ifd rfl (fun h => ?_) (fun h => ?_)
  · refine g_skip ?_
    refine g_qt ?_
    refine g_seq ?_
    refine g_block ?_
    refine g_region ?_
    refine g_pure (p_move rfl) rfl ?_
    refine g_pure (p_move rfl) rfl ?_
    refine g_pure (p_move rfl) rfl ?_
    refine g_pure (p_shr rfl rfl (by omega)) rfl ?_
    refine g_pure (p_and rfl rfl) rfl ?_
    refine g_pure (p_eql rfl rfl) rfl ?_
    refine g_eff (e_bs (xs := [.tmp 17]) rfl rfl rfl (by rfl) (by rfl) rfl (by rfl)) rfl (fun _ _ => ?_)
    rintro ⟨b18, rfl, rfl⟩
    refine g_eff (e_appendO (by rfl) (by rfl) rfl rfl (by first | (apply Has.own; (repeat' (first | exact Take.here | apply Take.there)); done) | exact Has.ro (by assumption)) (by rfl) (by rfl) (by repeat' (first | exact Take.here | apply Take.there)) (by omega) (by first | omega | (dsimp only; omega) | (simp <;> omega)) (by omega)) rfl (fun _ _ => ?_)
    rintro ⟨a19, c19, rfl, rfl⟩
    refine g_pure (p_assign rfl) rfl ?_
    refine g_nil ?_
    refine g_qb ?_
    refine g_qt ?_
    refine g_region ?_
    refine g_pure (p_move rfl) rfl ?_
    first | refine g_pure (p_addi rfl rfl (by omega)) rfl ?_ | refine g_pure (p_add rfl rfl) rfl ?_
    refine g_pure (p_assign rfl) rfl ?_
    refine g_nil ?_
    refine g_qn ?_
    rw [shr_i64 v (by omega), and1_i64 _ (div_i64 hv k)]
    have e : (bitsR k v).map encB ++ [Value.bool (decide (v / ((2 ^ k : Nat) : Int) % 2 = 1))] = (bitsR (k + 1) v).map encB := by
      rw [bitsR_snoc, List.map_append]; rfl
    rw [e]
    exact g_next (k + 1, a19, c19) (by (repeat (first | exact trivial | refine ⟨by rfl, ?_⟩)); done) (by repeat' (first | exact Cover.nil | exact Take.here | apply Cover.cons | apply Take.there)) (by dsimp only; omega) (by dsimp only; omega)
  · have hke : k = n := by omega
    subst hke
    refine g_exit ?_
    refine g_qt_exit ?_
    refine g_qn_exit ?_
    refine g_qb_exit ?_
    refine g_qt ?_
    refine g_seq ?_
    refine g_region ?_
    refine g_pure (p_move rfl) rfl ?_
    refine g_pure (p_assign rfl) rfl ?_
    refine g_nil ?_
    refine g_qt ?_
    refine g_ret ?_
    exact g_post (rs := [.tmp 4]) rfl (.tmp rfl .nil) ⟨oa, oc, rfl, rfl⟩ (by repeat' (first | exact Cover.nil | exact Take.here | apply Cover.cons | apply Take.there))

theorem dconst_ok (h : EnR ρ ea es) (hl : es.length ≤ maxLen) (t v : Int) (ht : I64 t) (hv : I64 v) : Con Try.prog ρ 22 #[.slice ea es.length ec, .int .i64 t, .int .i64 v] []
    (fun u H => ∃ a c, u = .tuple #[.slice a (constF es t v).1.length c, .int .i64 (constF es t v).2] ∧ H = [OwnSl 4 1 a (constF es t v).1.length c ((constF es t v).1.map encB)]) := by
  refine con_intro Try.func22 Try.call22 rfl Try.ntmps22 rfl (L := [(0, _), (1, _), (2, _)]) rfl fun w hh => ?_
  refine g_seq ?_
  refine g_region ?_
  refine g_pure (p_assign rfl) rfl ?_
  refine g_pure (p_assign rfl) rfl ?_
  refine g_nil ?_
  refine g_qt ?_
  refine g_seq ?_
  refine g_region ?_
  refine g_pure (p_move rfl) rfl ?_
  refine g_pure (p_move rfl) rfl ?_
  refine g_call (Hin := []) (Hr := ?hr7) (R := ?rr7) rfl rfl rfl ?hin7 ?hc7 ?hk7
  case hin7 => repeat' (first | exact Cover.nil | exact Take.here | apply Cover.cons | apply Take.there)
  case hc7 => intro ρ' hρ hR; exact dwidth_ok (h.mono hρ) hl t ht
  rintro _ _ ⟨rfl, rfl⟩
  refine g_pure (p_assign rfl) rfl ?_
  refine g_nil ?_
  refine g_qt ?_
  refine g_seq ?_
  refine g_seq ?_
  refine g_region ?_
  refine g_pure (p_move rfl) rfl ?_
  refine g_pure (p_eql rfl rfl) rfl ?_
  refine g_nil ?_
  refine g_qt ?_
  refine g_ifd rfl (fun a1 => ?_) (fun a1 => ?_)
  · refine g_seq ?_
    refine g_region ?_
    refine g_pure (p_assign rfl) rfl ?_
    refine g_pure (p_assign rfl) rfl ?_
    refine g_nil ?_
    refine g_qt ?_
    refine g_ret ?_
    refine g_qt_ret ?_
    refine g_ownnil (e := 4) (size := 1) ?_
    have e : constF es t v = ([], 10) := by unfold constF; rw [if_pos (by omega)]
    exact g_post (rs := [.tmp 6, .tmp 7]) rfl (.tmp rfl (.tmp rfl .nil)) ⟨none, 0, by rw [e]; rfl, by rw [e]⟩ (by repeat' (first | exact Cover.nil | exact Take.here | apply Cover.cons | apply Take.there))
  · refine g_skip ?_
    refine g_qt ?_
    refine g_seq ?_
    refine g_seq ?_
    refine g_region ?_
    refine g_pure (p_move rfl) rfl ?_
    refine g_pure (p_move rfl) rfl ?_
    refine g_pure (p_move rfl) rfl ?_
    refine g_call (Hin := []) (Hr := ?hr8) (R := ?rr8) rfl rfl rfl ?hin8 ?hc8 ?hk8
    case hin8 => repeat' (first | exact Cover.nil | exact Take.here | apply Cover.cons | apply Take.there)
    case hc8 => intro ρ' hρ hR; exact shas_ok (h.mono hρ) hl t v ht
    rintro _ _ ⟨rfl, rfl⟩
    refine g_pure (p_not rfl) rfl ?_
    refine g_nil ?_
    refine g_qt ?_
    by_cases hh : tyHas es t v
    · rw [decide_eq_true hh]
      refine g_iff rfl ?_
      refine g_skip ?_
      refine g_qt ?_
      refine g_seq ?_
      refine g_region ?_
      refine g_pure (p_move rfl) rfl ?_
      refine g_pure (p_move rfl) rfl ?_
      have e : constF es t v = (bitsR (widthN es t) v, 0) := by unfold constF; rw [if_neg (by omega), if_pos hh]
      have hwl := widthN_le es t
      refine g_call (Hin := []) (Hr := ?hr9) (R := ?rr9) rfl rfl rfl ?hin9 ?hc9 ?hk9
      case hin9 => repeat' (first | exact Cover.nil | exact Take.here | apply Cover.cons | apply Take.there)
      case hc9 => intro ρ' hρ hR; exact dbits_ok v hv (widthN es t) (by omega)
      rintro _ _ ⟨a, c, rfl, rfl⟩
      refine g_pure (p_assign rfl) rfl ?_
      refine g_pure (p_assign rfl) rfl ?_
      refine g_nil ?_
      refine g_qt ?_
      refine g_ret ?_
      exact g_post (Ho := [OwnSl 4 1 a (widthN es t) c ((bitsR (widthN es t) v).map encB)]) (rs := [.tmp 6, .tmp 7]) rfl (.tmp rfl (.tmp rfl .nil)) ⟨a, c, by rw [e, bitsR_len]; rfl, by rw [e, bitsR_len]⟩ (by repeat' (first | exact Cover.nil | exact Take.here | apply Cover.cons | apply Take.there))
    · rw [decide_eq_false hh]
      refine g_ift rfl ?_
      refine g_seq ?_
      refine g_region ?_
      refine g_pure (p_assign rfl) rfl ?_
      refine g_pure (p_assign rfl) rfl ?_
      refine g_nil ?_
      refine g_qt ?_
      refine g_ret ?_
      refine g_qt_ret ?_
      refine g_ownnil (e := 4) (size := 1) ?_
      have e : constF es t v = ([], 14) := by unfold constF; rw [if_neg (by omega), if_neg hh]
      exact g_post (rs := [.tmp 6, .tmp 7]) rfl (.tmp rfl (.tmp rfl .nil)) ⟨none, 0, by rw [e]; rfl, by rw [e]⟩ (by repeat' (first | exact Cover.nil | exact Take.here | apply Cover.cons | apply Take.there))
end Go.Proofs.Ytkebblmmgcgjkaa
