/- Chapter 05: reading a text; examples. Conditions: none. -/
import Derived.Test.YtkbofpcnhjopaaaDoorH2
import Derived.Test.YtkbofpcnhjopaaaDoorC4
namespace Go.Proofs.YtkbofpcnhjopaaaDoor
set_option maxRecDepth 8000
set_option linter.unusedVariables false
set_option linter.unusedSimpArgs false
set_option linter.unusedSectionVars false
open Go Go.Z Go.Z.Val

theorem atoi_good {ρ : Nat → Obj → Prop} (hk : LibK ρ) {s : ByteArray} (hs : s.size ≤ 281474976710656) {n : Int} (h : Lib.atoiAll s.data.toList = .ok n) : Con Tryd.prog ρ 45 #[.string s] [] (fun v H => v = .tuple #[.int .i64 n, .nilIface] ∧ H = []) :=
  (atoi_ok hk s hs).mono fun v H' ⟨e, hH⟩ => by unfold AtoiP at e; rw [h] at e; exact ⟨e, hH⟩
theorem atoi_bad {ρ : Nat → Obj → Prop} (hk : LibK ρ) {s : ByteArray} (hs : s.size ≤ 281474976710656) (h : ∀ n, Lib.atoiAll s.data.toList ≠ .ok n) : Con Tryd.prog ρ 45 #[.string s] [] (fun v H => (∃ n t p, v = .tuple #[.int .i64 n, .iface t p]) ∧ H = []) :=
  (atoi_ok hk s hs).mono fun v H' ⟨e, hH⟩ => by
    unfold AtoiP at e
    cases ha : Lib.atoiAll s.data.toList
    · exact absurd ha (h _)
    · rw [ha] at e; exact ⟨e, hH⟩
    · rw [ha] at e; exact ⟨e, hH⟩
/-- the number of a text, if it is one of the type int -/
def numF (s : ByteArray) : Option Int := match Lib.atoiAll s.data.toList with
  | .ok n => if (-32768 ≤ n ∧ n ≤ 32767) ∧ strOf (Lib.itoa n) = s then some n else none
  | _ => none
def parseF (l : List En) (t : Int) (s : ByteArray) : Int × Int :=
  if ¬ known l t then (0, 10) else if t = 2 then (match numF s with | some n => (n, 0) | none => (0, 5))
  else match (List.range (tagN l t).toNat).find? (fun v : Nat => decide (textF l t v = (s, 0))) with | some v => (v, 0) | none => (0, 5)
theorem find_take {p : Nat → Bool} {n i : Nat} (hi : i < n) (hno : ∀ j, j < i → p j = false) (h : p i = true) : (List.range n).find? p = some i := by
  rw [List.find?_range_eq_some]
  exact ⟨h, by simpa using hi, fun j hj => by simp [hno j hj]⟩
theorem find_none {p : Nat → Bool} {n : Nat} (hno : ∀ j, j < n → p j = false) : (List.range n).find? p = none := by
  rw [List.find?_eq_none]
  intro x hx
  rw [hno x (List.mem_range.1 hx)]; simp

theorem parse_ok {ρ : Nat → Obj → Prop} (hk : LibK ρ) {a : Option Addr} {c : Nat} {l : List En} (h : EnR ρ a l) (hl : l.length ≤ maxLen) (t : Int) (ht : I64 t) (s : ByteArray) (hs : t = 2 → s.size ≤ 281474976710656) : Con Tryd.prog ρ 15 #[.slice a l.length c, .int .i64 t, .string s] [] (fun u H => u = .tuple #[.int .i64 (parseF l t s).1, .int .i64 (parseF l t s).2] ∧ H = []) := by
  have hb := tagN_in (t := t) fun e he => (h.2 e he).2.2.2
  refine con_intro Tryd.func15 Tryd.call15 rfl Tryd.ntmps15 rfl (L := [(0, _), (1, _), (2, _)]) rfl fun w hh => ?_
  refine g_seq ?_
  refine g_region ?_
  refine g_pure (p_assign rfl) rfl ?_
  refine g_pure (p_assign rfl) rfl ?_
  refine g_nil ?_
  refine g_qt ?_
  refine g_seq ?_
  refine g_block ?_
  refine g_seq ?_
  refine g_region ?_
  refine g_pure (p_move rfl) rfl ?_
  refine g_pure (p_move rfl) rfl ?_
  refine g_call (Hin := []) (Hr := ?hr1) (R := ?rr1) rfl rfl rfl ?hin1 ?hc1 ?hk1
  case hin1 => repeat' (first | exact Cover.nil | exact Take.here | apply Cover.cons | apply Take.there)
  case hc1 => intro ρ' hρ hR; exact valid_ok (h.mono hρ) hl t ht
  rintro _ _ ⟨rfl, rfl⟩
  refine g_pure (p_not rfl) rfl ?_
  refine g_pure (p_assign rfl) rfl ?_
  refine g_nil ?_
  refine g_qt ?_
  refine g_ifnd rfl (fun h1 => ?_) (fun h1 => ?_)
  · refine g_seq ?_
    refine g_region ?_
    refine g_pure (p_assign rfl) rfl ?_
    refine g_pure (p_assign rfl) rfl ?_
    refine g_nil ?_
    refine g_qt ?_
    refine g_ret ?_
    refine g_qb_ret ?_
    refine g_qt_ret ?_
    exact g_post (Ho := []) (rs := [.tmp 6, .tmp 7]) rfl (.tmp rfl (.tmp rfl .nil)) ⟨by unfold parseF; rw [if_pos h1]; rfl, rfl⟩ (by repeat' (first | exact Cover.nil | exact Take.here | apply Cover.cons | apply Take.there))
  · refine g_seq ?_
    refine g_region ?_
    refine g_pure (p_move rfl) rfl ?_
    refine g_pure (p_eql rfl rfl) rfl ?_
    refine g_pure (p_assign rfl) rfl ?_
    refine g_nil ?_
    refine g_qt ?_
    refine g_ifd rfl (fun h2 => ?_) (fun h2 => ?_)
    · have hpF : parseF l t s = (match numF s with | some n => (n, 0) | none => (0, 5)) := by unfold parseF; rw [if_neg (not_not_intro h1), if_pos h2]
      rw [hpF]
      refine g_seq ?_
      refine g_region ?_
      refine g_pure (p_move rfl) rfl ?_
      by_cases hok : ∃ n, Lib.atoiAll s.data.toList = .ok n
      · obtain ⟨n, hn⟩ := hok
        have hI := Lib.atoiAll_bounds hn
        have hnum : numF s = if (-32768 ≤ n ∧ n ≤ 32767) ∧ strOf (Lib.itoa n) = s then some n else none := by unfold numF; rw [hn]
        rw [hnum]
        refine g_call (Hin := []) (Hr := ?hr2) (R := ?rr2) rfl rfl rfl ?hin2 ?hc2 ?hk2
        case hin2 => repeat' (first | exact Cover.nil | exact Take.here | apply Cover.cons | apply Take.there)
        case hc2 => intro ρ' hρ hR; exact atoi_good (hk.mono hρ) (hs h2) hn
        rintro _ _ ⟨rfl, rfl⟩
        refine g_pure (p_move rfl) rfl ?_
        refine g_pure (p_extract rfl rfl) rfl ?_
        refine g_pure (p_extract rfl rfl) rfl ?_
        refine g_pure (p_assign rfl) rfl ?_
        refine g_pure (p_assign rfl) rfl ?_
        refine g_nil ?_
        refine g_qt ?_
        refine g_seq ?_
        refine g_seq ?_
        refine g_region ?_
        refine g_pure (p_move rfl) rfl ?_
        refine g_pure (p_neqifF (by rfl) rfl rfl) rfl ?_
        refine g_pure (p_move rfl) rfl ?_
        refine g_yes rfl rfl ?_
        refine g_pure (p_move rfl) rfl ?_
        refine g_yes rfl rfl ?_
        refine g_call (Hin := []) (Hr := ?hr3) (R := ?rr3) rfl rfl rfl ?hin3 ?hc3 ?hk3
        case hin3 => repeat' (first | exact Cover.nil | exact Take.here | apply Cover.cons | apply Take.there)
        case hc3 => intro ρ' hρ hR; exact in_ok _
        rintro _ _ ⟨rfl, rfl⟩
        refine g_yes rfl rfl ?_
        refine g_pure (p_not rfl) rfl ?_
        first | refine g_pure (p_pickt rfl rfl) rfl ?_ | refine g_pure (p_pickf rfl rfl) rfl ?_
        refine g_pure (p_move rfl) rfl ?_
        refine g_splitnd rfl rfl (fun h2 => ?_) (fun h2 => ?_)
        · refine g_no rfl rfl rfl rfl ?_
          refine g_no rfl rfl rfl rfl ?_
          refine g_no rfl rfl rfl rfl ?_
          refine g_no rfl rfl rfl rfl ?_
          first | refine g_pure (p_pickt rfl rfl) rfl ?_ | refine g_pure (p_pickf rfl rfl) rfl ?_
          refine g_nil ?_
          refine g_qt ?_
          refine g_ift rfl ?_
          refine g_seq ?_
          refine g_region ?_
          refine g_pure (p_assign rfl) rfl ?_
          refine g_pure (p_assign rfl) rfl ?_
          refine g_nil ?_
          refine g_qt ?_
          refine g_ret ?_
          refine g_qt_ret ?_
          refine g_qb_ret ?_
          refine g_qt_ret ?_
          exact g_post (Ho := []) (rs := [.tmp 6, .tmp 7]) rfl (.tmp rfl (.tmp rfl .nil)) ⟨by first | (rw [if_pos ⟨by assumption, by assumption⟩]; rfl) | (rw [if_neg (fun hh => absurd hh.1 (by assumption))]; rfl) | (rw [if_neg (fun hh => absurd hh.2 (by assumption))]; rfl), rfl⟩ (by repeat' (first | exact Cover.nil | exact Take.here | apply Cover.cons | apply Take.there))
        · refine g_yes rfl rfl ?_
          refine g_pure (p_move rfl) rfl ?_
          refine g_yes rfl rfl ?_
          refine g_call (Hin := []) (Hr := ?hr4) (R := ?rr4) rfl rfl rfl ?hin4 ?hc4 ?hk4
          case hin4 => repeat' (first | exact Cover.nil | exact Take.here | apply Cover.cons | apply Take.there)
          case hc4 => intro ρ' hρ hR; exact itoa_ok (hk.mono hρ) n ⟨by omega, by omega⟩
          rintro _ _ ⟨rfl, rfl⟩
          refine g_yes rfl rfl ?_
          refine g_pure (p_move rfl) rfl ?_
          refine g_yes rfl rfl ?_
          refine g_pure (p_neqs (by rfl) rfl rfl) rfl ?_
          first | refine g_pure (p_pickt rfl rfl) rfl ?_ | refine g_pure (p_pickf rfl rfl) rfl ?_
          refine g_nil ?_
          refine g_qt ?_
          refine g_ifndL rfl (fun h4 => ?_) (fun h4 => ?_)
          · refine g_seq ?_
            refine g_region ?_
            refine g_pure (p_assign rfl) rfl ?_
            refine g_pure (p_assign rfl) rfl ?_
            refine g_nil ?_
            refine g_qt ?_
            refine g_ret ?_
            refine g_qt_ret ?_
            refine g_qb_ret ?_
            refine g_qt_ret ?_
            exact g_post (Ho := []) (rs := [.tmp 6, .tmp 7]) rfl (.tmp rfl (.tmp rfl .nil)) ⟨by first | (rw [if_pos ⟨by assumption, by assumption⟩]; rfl) | (rw [if_neg (fun hh => absurd hh.1 (by assumption))]; rfl) | (rw [if_neg (fun hh => absurd hh.2 (by assumption))]; rfl), rfl⟩ (by repeat' (first | exact Cover.nil | exact Take.here | apply Cover.cons | apply Take.there))
          · refine g_skip ?_
            refine g_qt ?_
            refine g_seq ?_
            refine g_region ?_
            refine g_pure (p_move rfl) rfl ?_
            refine g_pure (p_assign rfl) rfl ?_
            refine g_pure (p_assign rfl) rfl ?_
            refine g_nil ?_
            refine g_qt ?_
            refine g_ret ?_
            refine g_qb_ret ?_
            refine g_qt_ret ?_
            exact g_post (Ho := []) (rs := [.tmp 6, .tmp 7]) rfl (.tmp rfl (.tmp rfl .nil)) ⟨by first | (rw [if_pos ⟨by assumption, by assumption⟩]; rfl) | (rw [if_neg (fun hh => absurd hh.1 (by assumption))]; rfl) | (rw [if_neg (fun hh => absurd hh.2 (by assumption))]; rfl), rfl⟩ (by repeat' (first | exact Cover.nil | exact Take.here | apply Cover.cons | apply Take.there))
      · have hnum : numF s = none := by
          unfold numF
          cases ha : Lib.atoiAll s.data.toList
          · exact absurd ⟨_, ha⟩ hok
          · rfl
          · rfl
        rw [hnum]
        refine g_call (Hin := []) (Hr := ?hr5) (R := ?rr5) rfl rfl rfl ?hin5 ?hc5 ?hk5
        case hin5 => repeat' (first | exact Cover.nil | exact Take.here | apply Cover.cons | apply Take.there)
        case hc5 => intro ρ' hρ hR; exact atoi_bad (hk.mono hρ) (hs h2) (fun n hn => hok ⟨n, hn⟩)
        rintro _ _ ⟨⟨n, t1, p1, rfl⟩, rfl⟩
        refine g_pure (p_move rfl) rfl ?_
        refine g_pure (p_extract rfl rfl) rfl ?_
        refine g_pure (p_extract rfl rfl) rfl ?_
        refine g_pure (p_assign rfl) rfl ?_
        refine g_pure (p_assign rfl) rfl ?_
        refine g_nil ?_
        refine g_qt ?_
        refine g_seq ?_
        refine g_seq ?_
        refine g_region ?_
        refine g_pure (p_move rfl) rfl ?_
        refine g_pure (p_neqifT (by rfl) rfl rfl) rfl ?_
        refine g_pure (p_move rfl) rfl ?_
        refine g_no rfl rfl rfl rfl ?_
        refine g_no rfl rfl rfl rfl ?_
        refine g_no rfl rfl rfl rfl ?_
        first | refine g_pure (p_pickt rfl rfl) rfl ?_ | refine g_pure (p_pickf rfl rfl) rfl ?_
        refine g_pure (p_move rfl) rfl ?_
        refine g_no rfl rfl rfl rfl ?_
        refine g_no rfl rfl rfl rfl ?_
        refine g_no rfl rfl rfl rfl ?_
        refine g_no rfl rfl rfl rfl ?_
        first | refine g_pure (p_pickt rfl rfl) rfl ?_ | refine g_pure (p_pickf rfl rfl) rfl ?_
        refine g_nil ?_
        refine g_qt ?_
        refine g_ift rfl ?_
        refine g_seq ?_
        refine g_region ?_
        refine g_pure (p_assign rfl) rfl ?_
        refine g_pure (p_assign rfl) rfl ?_
        refine g_nil ?_
        refine g_qt ?_
        refine g_ret ?_
        refine g_qt_ret ?_
        refine g_qb_ret ?_
        refine g_qt_ret ?_
        exact g_post (Ho := []) (rs := [.tmp 6, .tmp 7]) rfl (.tmp rfl (.tmp rfl .nil)) ⟨rfl, rfl⟩ (by repeat' (first | exact Cover.nil | exact Take.here | apply Cover.cons | apply Take.there))
    · have hpF : parseF l t s = (match (List.range (tagN l t).toNat).find? (fun v : Nat => decide (textF l t v = (s, 0))) with | some v => ((v : Int), 0) | none => (0, 5)) := by unfold parseF; rw [if_neg (not_not_intro h1), if_neg h2]
      refine g_skip ?_
      refine g_qb ?_
      refine g_qt ?_
      refine g_seq ?_
      refine g_seq ?_
      refine g_region ?_
      refine g_pure (p_move rfl) rfl ?_
      refine g_pure (p_move rfl) rfl ?_
      refine g_call (Hin := []) (Hr := ?hr6) (R := ?rr6) rfl rfl rfl ?hin6 ?hc6 ?hk6
      case hin6 => repeat' (first | exact Cover.nil | exact Take.here | apply Cover.cons | apply Take.there)
      case hc6 => intro ρ' hρ hR; exact size_ok (h.mono hρ) hl t ht
      rintro _ _ ⟨rfl, rfl⟩
      refine g_pure (p_move rfl) rfl ?_
      refine g_nil ?_
      refine g_qt ?_
      refine g_block ?_
      refine g_loop (fun i : Nat => [(0, .slice a l.length c), (1, .int .i64 t), (2, .string s), (42, .int .i64 (tagN l t)), (43, .int .i64 i)]) (fun _ => []) (fun i => i ≤ (tagN l t).toNat ∧ ∀ j : Nat, j < i → decide (textF l t j = (s, 0)) = false) (fun i => (tagN l t).toNat - i) 0 ⟨Nat.zero_le _, fun j hj => absurd hj (Nat.not_lt_zero _)⟩ (by (repeat (first | exact trivial | refine ⟨by rfl, ?_⟩)); done) .nil fun i ⟨hi, hno⟩ => ?_
      refine g_seq ?_
      refine g_region ?_
      refine g_pure (p_lss rfl rfl) rfl ?_
      refine g_nil ?_
      refine g_qt ?_
      refine g_seq ?_
      refine g_ifd rfl (fun h3 => ?_) (fun h3 => ?_)
      · refine g_skip ?_
        refine g_qt ?_
        refine g_seq ?_
        refine g_block ?_
        refine g_seq ?_
        refine g_region ?_
        refine g_pure (p_move rfl) rfl ?_
        refine g_pure (p_assign rfl) rfl ?_
        refine g_nil ?_
        refine g_qt ?_
        refine g_seq ?_
        refine g_region ?_
        refine g_pure (p_move rfl) rfl ?_
        refine g_pure (p_move rfl) rfl ?_
        refine g_pure (p_move rfl) rfl ?_
        refine g_call (Hin := []) (Hr := ?hr7) (R := ?rr7) rfl rfl rfl ?hin7 ?hc7 ?hk7
        case hin7 => repeat' (first | exact Cover.nil | exact Take.here | apply Cover.cons | apply Take.there)
        case hc7 => intro ρ' hρ hR; exact text_ok (hk.mono hρ) (h.mono hρ) hl t i ht
        rintro _ _ ⟨rfl, rfl⟩
        have hyes : textF l t i = (s, 0) → parseF l t s = ((i : Int), 0) := fun hh => by rw [hpF, find_take (by omega) hno (decide_eq_true hh)]
        have hnxt : ¬ textF l t i = (s, 0) → ∀ j : Nat, j < i + 1 → decide (textF l t j = (s, 0)) = false := fun hh j hj => by
          by_cases e : j = i
          · subst e; exact decide_eq_false hh
          · exact hno j (by omega)
        generalize hx : textF l t (i : Int) = x at *
        obtain ⟨x1, x2⟩ := x
        dsimp only
        refine g_pure (p_move rfl) rfl ?_
        refine g_pure (p_extract rfl rfl) rfl ?_
        refine g_pure (p_extract rfl rfl) rfl ?_
        refine g_pure (p_assign rfl) rfl ?_
        refine g_pure (p_assign rfl) rfl ?_
        refine g_nil ?_
        refine g_qt ?_
        refine g_seq ?_
        refine g_region ?_
        refine g_pure (p_move rfl) rfl ?_
        refine g_pure (p_eql rfl rfl) rfl ?_
        refine g_pure (p_move rfl) rfl ?_
        refine g_splitd rfl rfl (fun h1 => ?_) (fun h1 => ?_)
        · refine g_yes rfl rfl ?_
          refine g_pure (p_move rfl) rfl ?_
          refine g_yes rfl rfl ?_
          refine g_pure (p_move rfl) rfl ?_
          refine g_yes rfl rfl ?_
          refine g_pure (p_eqls (by rfl) rfl rfl) rfl ?_
          first | refine g_pure (p_pickt rfl rfl) rfl ?_ | refine g_pure (p_pickf rfl rfl) rfl ?_
          refine g_nil ?_
          refine g_qt ?_
          refine g_ifdL rfl (fun h2 => ?_) (fun h2 => ?_)
          · refine g_seq ?_
            refine g_region ?_
            refine g_pure (p_move rfl) rfl ?_
            refine g_pure (p_assign rfl) rfl ?_
            refine g_pure (p_assign rfl) rfl ?_
            refine g_nil ?_
            refine g_qt ?_
            refine g_ret ?_
            refine g_qb_ret ?_
            refine g_qt_ret ?_
            refine g_qn_ret ?_
            refine g_qb_ret ?_
            refine g_qt_ret ?_
            exact g_post (Ho := []) (rs := [.tmp 6, .tmp 7]) rfl (.tmp rfl (.tmp rfl .nil)) ⟨by rw [hyes (by congr 1 <;> assumption)]; rfl, rfl⟩ (by repeat' (first | exact Cover.nil | exact Take.here | apply Cover.cons | apply Take.there))
          · refine g_skip ?_
            refine g_qb ?_
            refine g_qt ?_
            refine g_region ?_
            first | refine g_pure (p_addi rfl rfl (by omega)) rfl ?_ | refine g_pure (p_add rfl rfl) rfl ?_
            refine g_pure (p_move rfl) rfl ?_
            refine g_nil ?_
            refine g_qn ?_
            exact g_next (i + 1) ⟨by rfl, by rfl, by rfl, by rfl, by rfl, trivial⟩ .nil ⟨by omega, hnxt (by rintro e; injection e with e1 e2; contradiction)⟩ (by omega)
        · refine g_no rfl rfl rfl rfl ?_
          refine g_no rfl rfl rfl rfl ?_
          refine g_no rfl rfl rfl rfl ?_
          first | refine g_pure (p_pickt rfl rfl) rfl ?_ | refine g_pure (p_pickf rfl rfl) rfl ?_
          refine g_nil ?_
          refine g_qt ?_
          refine g_iff rfl ?_
          refine g_skip ?_
          refine g_qb ?_
          refine g_qt ?_
          refine g_region ?_
          first | refine g_pure (p_addi rfl rfl (by omega)) rfl ?_ | refine g_pure (p_add rfl rfl) rfl ?_
          refine g_pure (p_move rfl) rfl ?_
          refine g_nil ?_
          refine g_qn ?_
          exact g_next (i + 1) ⟨by rfl, by rfl, by rfl, by rfl, by rfl, trivial⟩ .nil ⟨by omega, hnxt (by rintro e; injection e with e1 e2; contradiction)⟩ (by omega)
      · have hi2 : i = (tagN l t).toNat := by omega
        subst hi2
        refine g_exit ?_
        refine g_qt_exit ?_
        refine g_qn_exit ?_
        refine g_qb_exit ?_
        refine g_qt ?_
        refine g_seq ?_
        refine g_region ?_
        refine g_pure (p_assign rfl) rfl ?_
        refine g_pure (p_assign rfl) rfl ?_
        refine g_nil ?_
        refine g_qt ?_
        refine g_ret ?_
        exact g_post (Ho := []) (rs := [.tmp 6, .tmp 7]) rfl (.tmp rfl (.tmp rfl .nil)) ⟨by rw [hpF, find_none hno]; rfl, rfl⟩ (by repeat' (first | exact Cover.nil | exact Take.here | apply Cover.cons | apply Take.there))
end Go.Proofs.YtkbofpcnhjopaaaDoor
