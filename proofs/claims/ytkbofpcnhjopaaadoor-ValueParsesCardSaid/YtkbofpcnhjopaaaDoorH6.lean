/- Chapter 05: ValueResults, ValueWords. Conditions: what the library's variables hold (LibK). -/
import Derived.Test.YtkbofpcnhjopaaaDoorH5
namespace Go.Z.Val
set_option maxRecDepth 8000
set_option linter.unusedVariables false
set_option linter.unusedSimpArgs false
set_option linter.unusedSectionVars false
open Go Go.Z
theorem res_all {k t0 w : Int} {ts : List Int} (hw : w = if k = 3 then t0 else if k = 1 then 1 else 2) (h1 : 1 ≤ w) (ht : ∀ t ∈ ts, t = w) : ts.all (fitB k t0) = true := by
  rw [List.all_eq_true]
  intro t h
  have := ht t h
  subst this
  unfold fitB
  by_cases e1 : k = 1
  · subst e1; rw [if_pos rfl]; rw [if_neg (by decide), if_pos rfl] at hw; exact decide_eq_true hw
  · rw [if_neg e1]
    by_cases e3 : k = 3
    · rw [if_pos e3]; rw [if_pos e3] at hw; rw [Bool.and_eq_true]; exact ⟨decide_eq_true hw, decide_eq_true h1⟩
    · rw [if_neg e3]; rw [if_neg e3, if_neg e1] at hw; exact decide_eq_true hw
theorem res_no {k t0 w : Int} {ts : List Int} (hw : w = if k = 3 then t0 else if k = 1 then 1 else 2) {t : Int} (h : t ∈ ts) (ht : ¬ t = w ∨ w < 1) : ts.all (fitB k t0) = false := by
  rw [List.all_eq_false]
  refine ⟨t, h, ?_⟩
  unfold fitB
  by_cases e1 : k = 1
  · subst e1; rw [if_neg (by decide), if_pos rfl] at hw; rw [if_pos rfl]; simp; omega
  · rw [if_neg e1]
    by_cases e3 : k = 3
    · rw [if_pos e3] at hw; rw [if_pos e3]; simp; omega
    · rw [if_neg e3, if_neg e1] at hw; rw [if_neg e3]; simp; omega
theorem apply_in {op : Int} (ho : 6 ≤ op ∧ op ≤ 16) {a b : Int} (ha : -32768 ≤ a ∧ a ≤ 32767) (hb : -32768 ≤ b ∧ b ≤ 32767) : applyF op [a, b] = (opF op a b, 0) := by
  have hg : groupF op = (2, 2) ∨ groupF op = (3, 2) ∨ groupF op = (4, 2) := by
    unfold groupF
    rw [if_neg (by omega), if_neg (by omega), if_neg (by omega)]
    by_cases h1 : 6 ≤ op ∧ op ≤ 10
    · rw [if_pos h1]; exact .inl rfl
    · rw [if_neg h1]
      by_cases h2 : op = 11 ∨ op = 12
      · rw [if_pos h2]; exact .inr (.inl rfl)
      · rw [if_neg h2, if_pos (by omega)]; exact .inr (.inr rfl)
  unfold applyF
  rcases hg with h | h | h <;> rw [h] <;> simp [argB] <;> omega
theorem apply_neg {a : Int} (ha : -32768 ≤ a ∧ a ≤ 32767) : applyF 2 [a] = (wr (-(wr a)), 0) := by
  have h : groupF 2 = (2, 1) := rfl
  have e : opF 2 a a = wr (-(wr a)) := rfl
  unfold applyF
  rw [h]
  simp [argB, e]
  omega
theorem cmp_sums (a b : Int) : ∃ lt le gt ge eq ne : Int, opF 13 a b = lt ∧ opF 14 a b = le ∧ opF 15 a b = gt ∧ opF 16 a b = ge ∧ opF 11 a b = eq ∧ opF 12 a b = ne ∧ (0 ≤ lt ∧ lt ≤ 1) ∧ (0 ≤ le ∧ le ≤ 1) ∧ (0 ≤ gt ∧ gt ≤ 1) ∧ (0 ≤ ge ∧ ge ≤ 1) ∧ (0 ≤ eq ∧ eq ≤ 1) ∧ (0 ≤ ne ∧ ne ≤ 1) ∧ lt + ge = 1 ∧ gt + le = 1 ∧ eq + ne = 1 ∧ lt + eq = le := by
  refine ⟨_, _, _, _, _, _, rfl, rfl, rfl, rfl, rfl, rfl, ?_⟩
  have e13 : opF 13 a b = truth (decide (a < b)) := rfl
  have e14 : opF 14 a b = truth (decide (a ≤ b)) := rfl
  have e15 : opF 15 a b = truth (decide (b < a)) := rfl
  have e16 : opF 16 a b = truth (decide (b ≤ a)) := rfl
  have e11 : opF 11 a b = truth (decide (a = b)) := rfl
  have e12 : opF 12 a b = truth (!decide (a = b)) := rfl
  rw [e13, e14, e15, e16, e11, e12]
  rcases Int.lt_trichotomy a b with h | h | h
  · simp [truth, show a < b from h, show a ≤ b by omega, show ¬ b < a by omega, show ¬ b ≤ a by omega, show ¬ a = b by omega]
  · subst h; simp [truth]
  · simp [truth, show ¬ a < b by omega, show ¬ a ≤ b by omega, show b < a by omega, show b ≤ a by omega, show ¬ a = b by omega]
theorem bools {x y : Nat} (hx : x < 2) (hy : y < 2) : applyF 3 [(x : Int), (y : Int)] = ((x : Int) * y, 0) ∧ applyF 4 [(1 : Int) - x, (1 : Int) - y] = (1 - (x : Int) * y, 0) ∧ applyF 1 [(x : Int) * y] = (1 - (x : Int) * y, 0) ∧ applyF 5 [(x : Int), (y : Int)] = (((x : Int) + y) % 2, 0) := by
  obtain rfl | rfl : x = 0 ∨ x = 1 := by omega
  · obtain rfl | rfl : y = 0 ∨ y = 1 := by omega
    · decide
    · decide
  · obtain rfl | rfl : y = 0 ∨ y = 1 := by omega
    · decide
    · decide
end Go.Z.Val
namespace Go.Proofs.YtkbofpcnhjopaaaDoor
set_option maxRecDepth 8000
set_option linter.unusedVariables false
set_option linter.unusedSimpArgs false
set_option linter.unusedSectionVars false
open Go Go.Z Go.Z.Val

theorem arith_ok {ρ : Nat → Obj → Prop} {op k : Int} {n : Nat} (hg : groupF op = (k, n)) (h0 : k ≠ 0) : Con Tryd.prog ρ 52 #[.int .i64 op] [] (fun v H => v = .bool (decide (k = 2)) ∧ H = []) := by
  have hk : k = 2 ↔ op = 2 ∨ (6 ≤ op ∧ op ≤ 10) := by
    unfold groupF at hg
    (repeat' split at hg) <;> cases hg <;> first | exact absurd rfl h0 | omega
  refine con_intro Tryd.func52 Tryd.call52 rfl Tryd.ntmps52 rfl (L := [(0, _)]) rfl fun w hh => ?_
  refine g_seq ?_
  refine g_region ?_
  refine g_pure (p_assign rfl) rfl ?_
  refine g_nil ?_
  refine g_qt ?_
  refine g_seq ?_
  refine g_region ?_
  refine g_pure (p_move rfl) rfl ?_
  refine g_pure (p_eql rfl rfl) rfl ?_
  refine g_pure (p_move rfl) rfl ?_
  refine g_splitd rfl rfl (fun h1 => ?_) (fun h1 => ?_)
  · refine g_no rfl rfl rfl rfl ?_
    refine g_no rfl rfl rfl rfl ?_
    refine g_no rfl rfl rfl rfl ?_
    refine g_nou rfl rfl rfl ?_
    refine g_nou rfl rfl rfl ?_
    refine g_no rfl rfl rfl rfl ?_
    first | refine g_pure (p_pickt rfl rfl) rfl ?_ | refine g_pure (p_pickf rfl rfl) rfl ?_
    refine g_pure (p_assign rfl) rfl ?_
    refine g_nil ?_
    refine g_qt ?_
    refine g_ret ?_
    exact g_post (Ho := []) (rs := [.tmp 2]) rfl (.tmp rfl .nil) ⟨by show Value.bool _ = Value.bool _; congr 1; first | (rw [eq_comm, decide_eq_true_iff]; omega) | (rw [eq_comm, decide_eq_false_iff_not]; omega) | (rw [decide_eq_decide]; omega), rfl⟩ (by repeat' (first | exact Cover.nil | exact Take.here | apply Cover.cons | apply Take.there))
  · refine g_yes rfl rfl ?_
    refine g_pure (p_move rfl) rfl ?_
    refine g_yes rfl rfl ?_
    refine g_pure (p_geq rfl rfl) rfl ?_
    refine g_yes rfl rfl ?_
    refine g_pure (p_move rfl) rfl ?_
    refine g_splitd rfl rfl (fun h3 => ?_) (fun h3 => ?_)
    · refine g_yes rfl rfl ?_
      refine g_pure (p_move rfl) rfl ?_
      refine g_yes rfl rfl ?_
      refine g_pure (p_leq rfl rfl) rfl ?_
      refine g_yes rfl rfl ?_
      first | refine g_pure (p_pickt rfl rfl) rfl ?_ | refine g_pure (p_pickf rfl rfl) rfl ?_
      first | refine g_pure (p_pickt rfl rfl) rfl ?_ | refine g_pure (p_pickf rfl rfl) rfl ?_
      refine g_pure (p_assign rfl) rfl ?_
      refine g_nil ?_
      refine g_qt ?_
      refine g_ret ?_
      exact g_post (Ho := []) (rs := [.tmp 2]) rfl (.tmp rfl .nil) ⟨by show Value.bool _ = Value.bool _; congr 1; first | (rw [eq_comm, decide_eq_true_iff]; omega) | (rw [eq_comm, decide_eq_false_iff_not]; omega) | (rw [decide_eq_decide]; omega), rfl⟩ (by repeat' (first | exact Cover.nil | exact Take.here | apply Cover.cons | apply Take.there))
    · refine g_no rfl rfl rfl rfl ?_
      refine g_no rfl rfl rfl rfl ?_
      refine g_yes rfl rfl ?_
      first | refine g_pure (p_pickt rfl rfl) rfl ?_ | refine g_pure (p_pickf rfl rfl) rfl ?_
      first | refine g_pure (p_pickt rfl rfl) rfl ?_ | refine g_pure (p_pickf rfl rfl) rfl ?_
      refine g_pure (p_assign rfl) rfl ?_
      refine g_nil ?_
      refine g_qt ?_
      refine g_ret ?_
      exact g_post (Ho := []) (rs := [.tmp 2]) rfl (.tmp rfl .nil) ⟨by show Value.bool _ = Value.bool _; congr 1; first | (rw [eq_comm, decide_eq_true_iff]; omega) | (rw [eq_comm, decide_eq_false_iff_not]; omega) | (rw [decide_eq_decide]; omega), rfl⟩ (by repeat' (first | exact Cover.nil | exact Take.here | apply Cover.cons | apply Take.there))

theorem dresult_ok {ρ : Nat → Obj → Prop} (op : Int) {aa : Option Addr} {ac : Nat} {ts : List Int} (ha : RSl ρ 1 aa ts.length (ts.map encI)) (hlen : ts.length ≤ 9223372036854775806) :
    Con Tryd.prog ρ 19 #[.int .i64 op, .slice aa ts.length ac] [] (fun v H => v = .tuple #[.int .i64 (resultF op ts).1, .int .i64 (resultF op ts).2] ∧ H = []) := by
  obtain ⟨_, bl, ol, kl, Tl, fl, hl⟩ := ha
  obtain ⟨⟨k, n⟩, hg'⟩ : ∃ x, x = groupF op := ⟨_, rfl⟩
  have hg : groupF op = (k, n) := hg'.symm
  have hgk := groupF_k hg
  have hG1 : (groupF op).1 = k := by rw [hg]
  have hG2 : (groupF op).2 = n := by rw [hg]
  refine con_intro Tryd.func19 Tryd.call19 rfl Tryd.ntmps19 rfl (L := [(0, _), (1, _)]) rfl fun w hh => ?_
  refine g_seq ?_
  refine g_region ?_
  refine g_pure (p_assign rfl) rfl ?_
  refine g_pure (p_assign rfl) rfl ?_
  refine g_nil ?_
  refine g_qt ?_
  refine g_seq ?_
  refine g_seq ?_
  refine g_region ?_
  refine g_pure (p_move rfl) rfl ?_
  refine g_call (Hin := []) (Hr := ?hr1) (R := ?rr1) rfl rfl rfl ?hin1 ?hc1 ?hk1
  case hin1 => repeat' (first | exact Cover.nil | exact Take.here | apply Cover.cons | apply Take.there)
  case hc1 => intro ρ' hρ hR; exact operands_ok hg
  rintro _ _ ⟨rfl, rfl⟩
  refine g_pure (p_eql rfl rfl) rfl ?_
  refine g_nil ?_
  refine g_qt ?_
  refine g_ifd rfl (fun h1 => ?_) (fun h1 => ?_)
  · refine g_seq ?_
    refine g_region ?_
    refine g_pure (p_assign rfl) rfl ?_
    refine g_pure (p_assign rfl) rfl ?_
    refine g_nil ?_
    refine g_qt ?_
    refine g_ret ?_
    refine g_qt_ret ?_
    exact g_post (Ho := []) (rs := [.tmp 4, .tmp 5]) rfl (.tmp rfl (.tmp rfl .nil)) ⟨by unfold resultF; rw [hG1, if_pos (by omega)]; rfl, rfl⟩ (by repeat' (first | exact Cover.nil | exact Take.here | apply Cover.cons | apply Take.there))
  · have hk0 : k ≠ 0 := by omega
    refine g_skip ?_
    refine g_qt ?_
    refine g_seq ?_
    refine g_seq ?_
    refine g_region ?_
    refine g_pure (p_move rfl) rfl ?_
    refine g_pure (p_len (by rfl) rfl) rfl ?_
    refine g_pure (p_move rfl) rfl ?_
    refine g_call (Hin := []) (Hr := ?hr2) (R := ?rr2) rfl rfl rfl ?hin2 ?hc2 ?hk2
    case hin2 => repeat' (first | exact Cover.nil | exact Take.here | apply Cover.cons | apply Take.there)
    case hc2 => intro ρ' hρ hR; exact operands_ok hg
    rintro _ _ ⟨rfl, rfl⟩
    refine g_pure (p_neq rfl rfl) rfl ?_
    refine g_nil ?_
    refine g_qt ?_
    refine g_ifnd rfl (fun h2 => ?_) (fun h2 => ?_)
    · refine g_seq ?_
      refine g_region ?_
      refine g_pure (p_assign rfl) rfl ?_
      refine g_pure (p_assign rfl) rfl ?_
      refine g_nil ?_
      refine g_qt ?_
      refine g_ret ?_
      refine g_qt_ret ?_
      exact g_post (Ho := []) (rs := [.tmp 4, .tmp 5]) rfl (.tmp rfl (.tmp rfl .nil)) ⟨by unfold resultF; rw [hG1, hG2, if_neg hk0, if_pos (by omega)]; rfl, rfl⟩ (by repeat' (first | exact Cover.nil | exact Take.here | apply Cover.cons | apply Take.there))
    · have hlen2 : ts.length = n := by omega
      have h0 : 0 < ts.length := by omega
      have hbad : ts.all (fitB k (ts.getD 0 0)) = false → resultF op ts = (0, 10) := fun h => by unfold resultF; rw [hG1, hG2, if_neg hk0, if_neg (by omega), h]; rfl
      have hgood : ts.all (fitB k (ts.getD 0 0)) = true → resultF op ts = (if k = 2 then 2 else 1, 0) := fun h => by unfold resultF; rw [hG1, hG2, if_neg hk0, if_neg (by omega), if_pos h]
      obtain ⟨l1, l2, l3⟩ := hl h0
      have z0 : kl[ol + (0 : Int).toNat * 1]? = some (.int .i64 (ts.getD 0 0)) := by
        rw [Nat.mul_one]
        refine l3 _ _ ?_
        rw [List.getElem?_map, List.getD_eq_getElem?_getD, List.getElem?_eq_getElem (show (0 : Int).toNat < ts.length from h0), List.getElem?_eq_getElem h0]; rfl
      refine g_skip ?_
      refine g_qt ?_
      refine g_seq ?_
      refine g_region ?_
      refine g_pure (p_assign rfl) rfl ?_
      refine g_nil ?_
      refine g_qt ?_
      refine g_seq ?_
      refine g_seq ?_
      refine g_region ?_
      refine g_pure (p_move rfl) rfl ?_
      refine g_call (Hin := []) (Hr := ?hr3) (R := ?rr3) rfl rfl rfl ?hin3 ?hc3 ?hk3
      case hin3 => repeat' (first | exact Cover.nil | exact Take.here | apply Cover.cons | apply Take.there)
      case hc3 => intro ρ' hρ hR; exact boolean_ok hg
      rintro _ _ ⟨rfl, rfl⟩
      refine g_nil ?_
      refine g_qt ?_
      refine g_join (fun x : Int => [(0, .int .i64 op), (1, .slice aa ts.length ac), (6, .int .i64 x)]) (fun _ => []) (fun x => x = if k = 1 then 1 else 2) ?_ ?_
      · refine g_ifd rfl (fun g => ?_) (fun g => ?_)
        · refine g_region ?_
          refine g_pure (p_assign rfl) rfl ?_
          refine g_nil ?_
          refine g_qn ?_
          exact g_joined 1 (by (repeat (first | exact trivial | refine ⟨by rfl, ?_⟩)); done) .nil (by rw [if_pos g])
        · refine g_skip ?_
          refine g_qn ?_
          exact g_joined 2 (by (repeat (first | exact trivial | refine ⟨by rfl, ?_⟩)); done) .nil (by rw [if_neg g])
      rintro x hx
      refine g_qt ?_
      refine g_seq ?_
      refine g_seq ?_
      refine g_region ?_
      refine g_pure (p_move rfl) rfl ?_
      refine g_call (Hin := []) (Hr := ?hr4) (R := ?rr4) rfl rfl rfl ?hin4 ?hc4 ?hk4
      case hin4 => repeat' (first | exact Cover.nil | exact Take.here | apply Cover.cons | apply Take.there)
      case hc4 => intro ρ' hρ hR; exact equality_ok hg
      rintro _ _ ⟨rfl, rfl⟩
      refine g_nil ?_
      refine g_qt ?_
      refine g_join (fun x : Int => [(0, .int .i64 op), (1, .slice aa ts.length ac), (6, .int .i64 x)]) (fun _ => []) (fun y => y = if k = 3 then ts.getD 0 0 else if k = 1 then 1 else 2) ?_ ?_
      · refine g_ifd rfl (fun g => ?_) (fun g => ?_)
        · refine g_region ?_
          refine g_pure (p_move rfl) rfl ?_
          refine g_pure (p_indexAddr rfl rfl (by omega) (fun _ => l1)) rfl ?_
          refine g_pure (p_load (by rfl) rfl (Has.ro l2) z0) rfl ?_
          refine g_pure (p_assign rfl) rfl ?_
          refine g_nil ?_
          refine g_qn ?_
          exact g_joined (ts.getD 0 0) (by (repeat (first | exact trivial | refine ⟨by rfl, ?_⟩)); done) .nil (by rw [if_pos g])
        · refine g_skip ?_
          refine g_qn ?_
          exact g_joined x (by (repeat (first | exact trivial | refine ⟨by rfl, ?_⟩)); done) .nil (by rw [if_neg g, hx])
      rintro y hy
      refine g_qt ?_
      refine g_seq ?_
      refine g_seq ?_
      refine g_region ?_
      refine g_pure (p_move rfl) rfl ?_
      refine g_pure (p_lss rfl rfl) rfl ?_
      refine g_nil ?_
      refine g_qt ?_
      refine g_ifd rfl (fun h3 => ?_) (fun h3 => ?_)
      · refine g_seq ?_
        refine g_region ?_
        refine g_pure (p_assign rfl) rfl ?_
        refine g_pure (p_assign rfl) rfl ?_
        refine g_nil ?_
        refine g_qt ?_
        refine g_ret ?_
        refine g_qt_ret ?_
        exact g_post (Ho := []) (rs := [.tmp 4, .tmp 5]) rfl (.tmp rfl (.tmp rfl .nil)) ⟨by rw [hbad (res_no hy (List.getElem_mem h0) (.inr h3))]; rfl, rfl⟩ (by repeat' (first | exact Cover.nil | exact Take.here | apply Cover.cons | apply Take.there))
      · refine g_skip ?_
        refine g_qt ?_
        refine g_seq ?_
        refine g_seq ?_
        refine g_region ?_
        refine g_pure (p_assign rfl) rfl ?_
        refine g_nil ?_
        refine g_qt ?_
        refine g_block ?_
        refine g_loop (fun i : Nat => [(0, .int .i64 op), (1, .slice aa ts.length ac), (6, .int .i64 y), (7, .int .i64 i)]) (fun _ => []) (fun i => i ≤ ts.length ∧ ∀ t ∈ ts.take i, t = y) (fun i => ts.length - i) 0 ⟨Nat.zero_le _, by simp⟩ (by (repeat (first | exact trivial | refine ⟨by rfl, ?_⟩)); done) .nil fun i ⟨hi, hall⟩ => ?_
        refine g_seq ?_
        refine g_seq ?_
        refine g_region ?_
        refine g_pure (p_move rfl) rfl ?_
        refine g_pure (p_move rfl) rfl ?_
        refine g_pure (p_len (by rfl) rfl) rfl ?_
        refine g_pure (p_lss rfl rfl) rfl ?_
        refine g_nil ?_
        refine g_qt ?_
        refine g_ifd rfl (fun h4 => ?_) (fun h4 => ?_)
        · have hk' : i < ts.length := by omega
          have x0 : kl[ol + (i : Int).toNat * 1]? = some (.int .i64 ts[i]) := by rw [Nat.mul_one]; exact l3 _ _ (mapI ts hk')
          refine g_skip ?_
          refine g_qt ?_
          refine g_seq ?_
          refine g_block ?_
          refine g_seq ?_
          refine g_region ?_
          refine g_pure (p_move rfl) rfl ?_
          refine g_pure (p_move rfl) rfl ?_
          refine g_pure (p_indexAddr rfl rfl (by omega) (fun _ => l1)) rfl ?_
          refine g_pure (p_load (by rfl) rfl (Has.ro l2) x0) rfl ?_
          refine g_pure (p_move rfl) rfl ?_
          refine g_pure (p_neq rfl rfl) rfl ?_
          refine g_nil ?_
          refine g_qt ?_
          refine g_ifnd rfl (fun h5 => ?_) (fun h5 => ?_)
          · refine g_seq ?_
            refine g_region ?_
            refine g_pure (p_assign rfl) rfl ?_
            refine g_pure (p_assign rfl) rfl ?_
            refine g_nil ?_
            refine g_qt ?_
            refine g_ret ?_
            refine g_qb_ret ?_
            refine g_qt_ret ?_
            refine g_qn_ret ?_
            refine g_qb_ret ?_
            refine g_qt_ret ?_
            exact g_post (Ho := []) (rs := [.tmp 4, .tmp 5]) rfl (.tmp rfl (.tmp rfl .nil)) ⟨by rw [hbad (res_no hy (List.getElem_mem hk') (.inl h5))]; rfl, rfl⟩ (by repeat' (first | exact Cover.nil | exact Take.here | apply Cover.cons | apply Take.there))
          · refine g_skip ?_
            refine g_qb ?_
            refine g_qt ?_
            refine g_region ?_
            refine g_pure (p_move rfl) rfl ?_
            first | refine g_pure (p_addi rfl rfl (by omega)) rfl ?_ | refine g_pure (p_add rfl rfl) rfl ?_
            refine g_pure (p_assign rfl) rfl ?_
            refine g_nil ?_
            refine g_qn ?_
            exact g_next (i + 1) (by (repeat (first | exact trivial | refine ⟨by rfl, ?_⟩)); done) .nil ⟨by omega, all_take hk' hall h5⟩ (by omega)
        · obtain rfl : i = ts.length := by omega
          rw [List.take_length] at hall
          rw [hgood (res_all hy (by omega) hall)]
          refine g_exit ?_
          refine g_qt_exit ?_
          refine g_qn_exit ?_
          refine g_qb_exit ?_
          refine g_qt ?_
          refine g_seq ?_
          refine g_seq ?_
          refine g_region ?_
          refine g_pure (p_move rfl) rfl ?_
          refine g_call (Hin := []) (Hr := ?hr5) (R := ?rr5) rfl rfl rfl ?hin5 ?hc5 ?hk5
          case hin5 => repeat' (first | exact Cover.nil | exact Take.here | apply Cover.cons | apply Take.there)
          case hc5 => intro ρ' hρ hR; exact arith_ok hg hk0
          rintro _ _ ⟨rfl, rfl⟩
          refine g_nil ?_
          refine g_qt ?_
          refine g_ifdL rfl (fun h1 => ?_) (fun h1 => ?_)
          · refine g_seq ?_
            refine g_region ?_
            refine g_pure (p_assign rfl) rfl ?_
            refine g_pure (p_assign rfl) rfl ?_
            refine g_nil ?_
            refine g_qt ?_
            refine g_ret ?_
            refine g_qt_ret ?_
            exact g_post (Ho := []) (rs := [.tmp 4, .tmp 5]) rfl (.tmp rfl (.tmp rfl .nil)) ⟨by first | (rw [if_pos (by assumption)]; rfl) | (rw [if_neg (by assumption)]; rfl), rfl⟩ (by repeat' (first | exact Cover.nil | exact Take.here | apply Cover.cons | apply Take.there))
          · refine g_skip ?_
            refine g_qt ?_
            refine g_seq ?_
            refine g_region ?_
            refine g_pure (p_assign rfl) rfl ?_
            refine g_pure (p_assign rfl) rfl ?_
            refine g_nil ?_
            refine g_qt ?_
            refine g_ret ?_
            exact g_post (Ho := []) (rs := [.tmp 4, .tmp 5]) rfl (.tmp rfl (.tmp rfl .nil)) ⟨by first | (rw [if_pos (by assumption)]; rfl) | (rw [if_neg (by assumption)]; rfl), rfl⟩ (by repeat' (first | exact Cover.nil | exact Take.here | apply Cover.cons | apply Take.there))

theorem vresults_ok {ρ : Nat → Obj → Prop} (hk : LibK ρ) (op : Int) {aa : Option Addr} {ac : Nat} {args : List Int} (ha : RSl ρ 1 aa args.length (args.map encI)) :
    Con Tryd.prog ρ 5 #[.int .i64 op, .slice aa args.length ac] [] (fun v _ => v = .bool true) := by
  refine con_intro Tryd.func5 Tryd.call5 rfl Tryd.ntmps5 rfl (L := [(0, _), (1, _)]) rfl fun w hh => ?_
  refine g_seq ?_
  refine g_region ?_
  refine g_pure (p_assign rfl) rfl ?_
  refine g_nil ?_
  refine g_qt ?_
  refine g_seq ?_
  refine g_seq ?_
  refine g_region ?_
  refine g_pure (p_move rfl) rfl ?_
  refine g_pure (p_len (by rfl) rfl) rfl ?_
  refine g_pure (p_gtr rfl rfl) rfl ?_
  refine g_nil ?_
  refine g_qt ?_
  refine g_ifd rfl (fun h => ?_) (fun h => ?_)
  · refine g_seq ?_
    refine g_region ?_
    refine g_call (Hin := []) (Hr := ?hr6) (R := ?rr6) rfl rfl rfl ?hin6 ?hc6 ?hk6
    case hin6 => repeat' (first | exact Cover.nil | exact Take.here | apply Cover.cons | apply Take.there)
    case hc6 => intro ρ' hρ hR; exact vawake_ok (hk.mono hρ)
    rintro _ _ ⟨rfl, rfl⟩
    refine g_pure (p_assign rfl) rfl ?_
    refine g_nil ?_
    refine g_qt ?_
    refine g_ret ?_
    refine g_qt_ret ?_
    exact g_post (Ho := []) (rs := [.tmp 4]) rfl (.tmp rfl .nil) rfl .nil
  · refine g_skip ?_
    refine g_qt ?_
    refine g_seq ?_
    refine g_region ?_
    refine g_pure (p_move rfl) rfl ?_
    refine g_pure (p_move rfl) rfl ?_
    refine g_call (Hin := []) (Hr := ?hr7) (R := ?rr7) rfl rfl rfl ?hin7 ?hc7 ?hk7
    case hin7 => repeat' (first | exact Cover.nil | exact Take.here | apply Cover.cons | apply Take.there)
    case hc7 => intro ρ' hρ hR; exact result_ok op (ha.mono hρ) (by omega)
    rintro _ _ ⟨rfl, rfl⟩
    refine g_pure (p_move rfl) rfl ?_
    refine g_pure (p_extract rfl rfl) rfl ?_
    refine g_pure (p_extract rfl rfl) rfl ?_
    refine g_pure (p_assign rfl) rfl ?_
    refine g_pure (p_assign rfl) rfl ?_
    refine g_nil ?_
    refine g_qt ?_
    refine g_seq ?_
    refine g_region ?_
    refine g_pure (p_move rfl) rfl ?_
    refine g_pure (p_move rfl) rfl ?_
    refine g_call (Hin := []) (Hr := ?hr8) (R := ?rr8) rfl rfl rfl ?hin8 ?hc8 ?hk8
    case hin8 => repeat' (first | exact Cover.nil | exact Take.here | apply Cover.cons | apply Take.there)
    case hc8 => intro ρ' hρ hR; exact dresult_ok op (ha.mono hρ) (by omega)
    rintro _ _ ⟨rfl, rfl⟩
    refine g_pure (p_move rfl) rfl ?_
    refine g_pure (p_extract rfl rfl) rfl ?_
    refine g_pure (p_extract rfl rfl) rfl ?_
    refine g_pure (p_assign rfl) rfl ?_
    refine g_pure (p_assign rfl) rfl ?_
    refine g_nil ?_
    refine g_qt ?_
    refine g_seq ?_
    refine g_region ?_
    refine g_pure (p_move rfl) rfl ?_
    refine g_pure (p_move rfl) rfl ?_
    refine g_pure (p_eqlT rfl rfl rfl) rfl ?_
    refine g_pure (p_move rfl) rfl ?_
    refine g_yes rfl rfl ?_
    refine g_pure (p_move rfl) rfl ?_
    refine g_yes rfl rfl ?_
    refine g_pure (p_move rfl) rfl ?_
    refine g_yes rfl rfl ?_
    refine g_pure (p_eqlT rfl rfl rfl) rfl ?_
    first | refine g_pure (p_pickt rfl rfl) rfl ?_ | refine g_pure (p_pickf rfl rfl) rfl ?_
    refine g_pure (p_move rfl) rfl ?_
    refine g_yes rfl rfl ?_
    refine g_call (Hin := []) (Hr := ?hr9) (R := ?rr9) rfl rfl rfl ?hin9 ?hc9 ?hk9
    case hin9 => repeat' (first | exact Cover.nil | exact Take.here | apply Cover.cons | apply Take.there)
    case hc9 => intro ρ' hρ hR; exact vawake_ok (hk.mono hρ)
    rintro _ _ ⟨rfl, rfl⟩
    first | refine g_pure (p_pickt rfl rfl) rfl ?_ | refine g_pure (p_pickf rfl rfl) rfl ?_
    refine g_pure (p_assign rfl) rfl ?_
    refine g_nil ?_
    refine g_qt ?_
    refine g_ret ?_
    exact g_post (Ho := []) (rs := [.tmp 4]) rfl (.tmp rfl .nil) rfl .nil

theorem two_ok {ρ : Nat → Obj → Prop} {op : Int} (ho : 6 ≤ op ∧ op ≤ 16) {a b r : Int} (ha : -32768 ≤ a ∧ a ≤ 32767) (hb : -32768 ≤ b ∧ b ≤ 32767) (hr : opF op a b = r) : Con Tryd.prog ρ 26 #[.int .i64 op, .int .i64 a, .int .i64 b] [] (fun v H => v = .int .i64 r ∧ H = []) := by
  refine con_intro Tryd.func26 Tryd.call26 rfl Tryd.ntmps26 rfl (L := [(0, _), (1, _), (2, _)]) rfl fun w hh => ?_
  refine g_seq ?_
  refine g_region ?_
  refine g_pure (p_assign rfl) rfl ?_
  refine g_nil ?_
  refine g_qt ?_
  refine g_seq ?_
  refine g_region ?_
  refine g_pure (p_move rfl) rfl ?_
  refine g_pure (p_move rfl) rfl ?_
  refine g_pure (p_move rfl) rfl ?_
  refine g_eff (e_bs (xs := [.tmp 11, .tmp 12]) rfl rfl rfl (by rfl) (by rfl) rfl (by rfl)) rfl (fun _ _ => ?_)
  rintro ⟨b13, rfl, rfl⟩
  refine g_call (Hin := []) (Hr := ?hr10) (R := ?rr10) rfl rfl rfl ?hin10 ?hc10 ?hk10
  case hin10 => repeat' (first | exact Cover.nil | exact Take.here | apply Cover.cons | apply Take.there)
  case hc10 => intro ρ' hρ hR; exact apply_ok op (args := [a, b]) (RSl.of_blk hR.1.blk (by simp)) (by simp)
  rintro _ _ ⟨rfl, rfl⟩
  rw [apply_in ho ha hb]
  dsimp only
  refine g_pure (p_move rfl) rfl ?_
  refine g_pure (p_extract rfl rfl) rfl ?_
  refine g_pure (p_extract rfl rfl) rfl ?_
  refine g_pure (p_assign rfl) rfl ?_
  refine g_pure (p_assign rfl) rfl ?_
  refine g_nil ?_
  refine g_qt ?_
  refine g_seq ?_
  refine g_seq ?_
  refine g_region ?_
  refine g_pure (p_move rfl) rfl ?_
  refine g_pure (p_neqF rfl rfl rfl) rfl ?_
  refine g_nil ?_
  refine g_qt ?_
  refine g_iff rfl ?_
  refine g_skip ?_
  refine g_qt ?_
  refine g_seq ?_
  refine g_region ?_
  refine g_pure (p_move rfl) rfl ?_
  refine g_pure (p_assign rfl) rfl ?_
  refine g_nil ?_
  refine g_qt ?_
  refine g_ret ?_
  exact g_post (Ho := []) (rs := [.tmp 6]) rfl (.tmp rfl .nil) ⟨by rw [← hr]; rfl, rfl⟩ (by repeat' (first | exact Cover.nil | exact Take.here | apply Cover.cons | apply Take.there))

set_option maxHeartbeats 1600000 in
theorem vwords_ok {ρ : Nat → Obj → Prop} (hk : LibK ρ) (a0 b0 : Int) :
    Con Tryd.prog ρ 9 #[.int .i64 a0, .int .i64 b0] [] (fun v _ => v = .bool true) := by
  have ha := wr_in a0
  have hb := wr_in b0
  refine con_intro Tryd.func9 Tryd.call9 rfl Tryd.ntmps9 rfl (L := [(0, _), (1, _)]) rfl fun w hh => ?_
  refine g_seq ?_
  refine g_region ?_
  refine g_pure (p_assign rfl) rfl ?_
  refine g_nil ?_
  refine g_qt ?_
  refine g_seq ?_
  refine g_region ?_
  refine g_pure (p_move rfl) rfl ?_
  refine g_call (Hin := []) (Hr := ?hr11) (R := ?rr11) rfl rfl rfl ?hin11 ?hc11 ?hk11
  case hin11 => repeat' (first | exact Cover.nil | exact Take.here | apply Cover.cons | apply Take.there)
  case hc11 => intro ρ' hρ hR; exact wrap_ok _
  rintro _ _ ⟨rfl, rfl⟩
  refine g_pure (p_move rfl) rfl ?_
  refine g_call (Hin := []) (Hr := ?hr12) (R := ?rr12) rfl rfl rfl ?hin12 ?hc12 ?hk12
  case hin12 => repeat' (first | exact Cover.nil | exact Take.here | apply Cover.cons | apply Take.there)
  case hc12 => intro ρ' hρ hR; exact wrap_ok _
  rintro _ _ ⟨rfl, rfl⟩
  refine g_pure (p_assign rfl) rfl ?_
  refine g_pure (p_assign rfl) rfl ?_
  refine g_nil ?_
  refine g_qt ?_
  refine g_seq ?_
  refine g_seq ?_
  generalize wr a0 = a at *
  generalize wr b0 = b at *
  obtain ⟨lt, le, gt, ge, eq, ne, e13, e14, e15, e16, e11, e12, k1, k2, k3, k4, k5, k6, s1, s2, s3, s4⟩ := cmp_sums a b
  refine g_region ?_
  refine g_pure (p_move rfl) rfl ?_
  refine g_pure (p_move rfl) rfl ?_
  refine g_call (Hin := []) (Hr := ?hr13) (R := ?rr13) rfl rfl rfl ?hin13 ?hc13 ?hk13
  case hin13 => repeat' (first | exact Cover.nil | exact Take.here | apply Cover.cons | apply Take.there)
  case hc13 => intro ρ' hρ hR; exact two_ok (op := 6) (by decide) ha hb rfl
  rintro _ _ ⟨rfl, rfl⟩
  refine g_pure (p_move rfl) rfl ?_
  refine g_pure (p_move rfl) rfl ?_
  refine g_call (Hin := []) (Hr := ?hr14) (R := ?rr14) rfl rfl rfl ?hin14 ?hc14 ?hk14
  case hin14 => repeat' (first | exact Cover.nil | exact Take.here | apply Cover.cons | apply Take.there)
  case hc14 => intro ρ' hρ hR; exact add_ok _ _
  rintro _ _ ⟨rfl, rfl⟩
  refine g_pure (p_neqF rfl rfl rfl) rfl ?_
  refine g_pure (p_move rfl) rfl ?_
  refine g_yes rfl rfl ?_
  refine g_pure (p_move rfl) rfl ?_
  refine g_yes rfl rfl ?_
  refine g_pure (p_move rfl) rfl ?_
  refine g_yes rfl rfl ?_
  refine g_call (Hin := []) (Hr := ?hr15) (R := ?rr15) rfl rfl rfl ?hin15 ?hc15 ?hk15
  case hin15 => repeat' (first | exact Cover.nil | exact Take.here | apply Cover.cons | apply Take.there)
  case hc15 => intro ρ' hρ hR; exact two_ok (op := 7) (by decide) ha hb rfl
  rintro _ _ ⟨rfl, rfl⟩
  refine g_yes rfl rfl ?_
  refine g_pure (p_move rfl) rfl ?_
  refine g_yes rfl rfl ?_
  refine g_pure (p_move rfl) rfl ?_
  refine g_yes rfl rfl ?_
  refine g_call (Hin := []) (Hr := ?hr16) (R := ?rr16) rfl rfl rfl ?hin16 ?hc16 ?hk16
  case hin16 => repeat' (first | exact Cover.nil | exact Take.here | apply Cover.cons | apply Take.there)
  case hc16 => intro ρ' hρ hR; exact sub_ok _ _
  rintro _ _ ⟨rfl, rfl⟩
  refine g_yes rfl rfl ?_
  refine g_pure (p_neqF rfl rfl rfl) rfl ?_
  first | refine g_pure (p_pickt rfl rfl) rfl ?_ | refine g_pure (p_pickf rfl rfl) rfl ?_
  refine g_pure (p_move rfl) rfl ?_
  refine g_yes rfl rfl ?_
  refine g_pure (p_move rfl) rfl ?_
  refine g_yes rfl rfl ?_
  refine g_pure (p_move rfl) rfl ?_
  refine g_yes rfl rfl ?_
  refine g_call (Hin := []) (Hr := ?hr17) (R := ?rr17) rfl rfl rfl ?hin17 ?hc17 ?hk17
  case hin17 => repeat' (first | exact Cover.nil | exact Take.here | apply Cover.cons | apply Take.there)
  case hc17 => intro ρ' hρ hR; exact two_ok (op := 8) (by decide) ha hb rfl
  rintro _ _ ⟨rfl, rfl⟩
  refine g_yes rfl rfl ?_
  refine g_pure (p_move rfl) rfl ?_
  refine g_yes rfl rfl ?_
  refine g_pure (p_move rfl) rfl ?_
  refine g_yes rfl rfl ?_
  refine g_call (Hin := []) (Hr := ?hr18) (R := ?rr18) rfl rfl rfl ?hin18 ?hc18 ?hk18
  case hin18 => repeat' (first | exact Cover.nil | exact Take.here | apply Cover.cons | apply Take.there)
  case hc18 => intro ρ' hρ hR; exact mul_ok _ _
  rintro _ _ ⟨rfl, rfl⟩
  refine g_yes rfl rfl ?_
  refine g_pure (p_neqF rfl rfl rfl) rfl ?_
  first | refine g_pure (p_pickt rfl rfl) rfl ?_ | refine g_pure (p_pickf rfl rfl) rfl ?_
  refine g_pure (p_move rfl) rfl ?_
  refine g_yes rfl rfl ?_
  refine g_pure (p_move rfl) rfl ?_
  refine g_yes rfl rfl ?_
  refine g_pure (p_move rfl) rfl ?_
  refine g_yes rfl rfl ?_
  refine g_call (Hin := []) (Hr := ?hr19) (R := ?rr19) rfl rfl rfl ?hin19 ?hc19 ?hk19
  case hin19 => repeat' (first | exact Cover.nil | exact Take.here | apply Cover.cons | apply Take.there)
  case hc19 => intro ρ' hρ hR; exact two_ok (op := 9) (by decide) ha hb rfl
  rintro _ _ ⟨rfl, rfl⟩
  refine g_yes rfl rfl ?_
  refine g_pure (p_move rfl) rfl ?_
  refine g_yes rfl rfl ?_
  refine g_pure (p_move rfl) rfl ?_
  refine g_yes rfl rfl ?_
  refine g_call (Hin := []) (Hr := ?hr20) (R := ?rr20) rfl rfl rfl ?hin20 ?hc20 ?hk20
  case hin20 => repeat' (first | exact Cover.nil | exact Take.here | apply Cover.cons | apply Take.there)
  case hc20 => intro ρ' hρ hR; exact div_ok _ _
  rintro _ _ ⟨rfl, rfl⟩
  refine g_yes rfl rfl ?_
  refine g_pure (p_neqF rfl rfl rfl) rfl ?_
  first | refine g_pure (p_pickt rfl rfl) rfl ?_ | refine g_pure (p_pickf rfl rfl) rfl ?_
  refine g_pure (p_move rfl) rfl ?_
  refine g_yes rfl rfl ?_
  refine g_pure (p_move rfl) rfl ?_
  refine g_yes rfl rfl ?_
  refine g_pure (p_move rfl) rfl ?_
  refine g_yes rfl rfl ?_
  refine g_call (Hin := []) (Hr := ?hr21) (R := ?rr21) rfl rfl rfl ?hin21 ?hc21 ?hk21
  case hin21 => repeat' (first | exact Cover.nil | exact Take.here | apply Cover.cons | apply Take.there)
  case hc21 => intro ρ' hρ hR; exact two_ok (op := 10) (by decide) ha hb rfl
  rintro _ _ ⟨rfl, rfl⟩
  refine g_yes rfl rfl ?_
  refine g_pure (p_move rfl) rfl ?_
  refine g_yes rfl rfl ?_
  refine g_pure (p_move rfl) rfl ?_
  refine g_yes rfl rfl ?_
  refine g_call (Hin := []) (Hr := ?hr22) (R := ?rr22) rfl rfl rfl ?hin22 ?hc22 ?hk22
  case hin22 => repeat' (first | exact Cover.nil | exact Take.here | apply Cover.cons | apply Take.there)
  case hc22 => intro ρ' hρ hR; exact mod_ok _ _
  rintro _ _ ⟨rfl, rfl⟩
  refine g_yes rfl rfl ?_
  refine g_pure (p_neqF rfl rfl rfl) rfl ?_
  first | refine g_pure (p_pickt rfl rfl) rfl ?_ | refine g_pure (p_pickf rfl rfl) rfl ?_
  refine g_nil ?_
  refine g_qt ?_
  refine g_iff rfl ?_
  refine g_skip ?_
  refine g_qt ?_
  refine g_seq ?_
  refine g_region ?_
  refine g_pure (p_move rfl) rfl ?_
  refine g_eff (e_bs (xs := [.tmp 65]) rfl rfl rfl (by rfl) (by rfl) rfl (by rfl)) rfl (fun _ _ => ?_)
  rintro ⟨b66, rfl, rfl⟩
  refine g_call (Hin := []) (Hr := ?hr23) (R := ?rr23) rfl rfl rfl ?hin23 ?hc23 ?hk23
  case hin23 => repeat' (first | exact Cover.nil | exact Take.here | apply Cover.cons | apply Take.there)
  case hc23 => intro ρ' hρ hR; exact apply_ok 2 (args := [a]) (RSl.of_blk hR.1.blk (by simp)) (by simp)
  rintro _ _ ⟨rfl, rfl⟩
  rw [apply_neg ha]
  dsimp only
  refine g_pure (p_move rfl) rfl ?_
  refine g_pure (p_extract rfl rfl) rfl ?_
  refine g_pure (p_extract rfl rfl) rfl ?_
  refine g_pure (p_assign rfl) rfl ?_
  refine g_pure (p_assign rfl) rfl ?_
  refine g_nil ?_
  refine g_qt ?_
  refine g_seq ?_
  refine g_seq ?_
  refine g_region ?_
  refine g_pure (p_move rfl) rfl ?_
  refine g_pure (p_neqF rfl rfl rfl) rfl ?_
  refine g_pure (p_move rfl) rfl ?_
  refine g_yes rfl rfl ?_
  refine g_pure (p_move rfl) rfl ?_
  refine g_yes rfl rfl ?_
  refine g_pure (p_move rfl) rfl ?_
  refine g_yes rfl rfl ?_
  refine g_call (Hin := []) (Hr := ?hr24) (R := ?rr24) rfl rfl rfl ?hin24 ?hc24 ?hk24
  case hin24 => repeat' (first | exact Cover.nil | exact Take.here | apply Cover.cons | apply Take.there)
  case hc24 => intro ρ' hρ hR; exact neg_ok _
  rintro _ _ ⟨rfl, rfl⟩
  refine g_yes rfl rfl ?_
  refine g_pure (p_neqF rfl rfl rfl) rfl ?_
  first | refine g_pure (p_pickt rfl rfl) rfl ?_ | refine g_pure (p_pickf rfl rfl) rfl ?_
  refine g_pure (p_move rfl) rfl ?_
  refine g_yes rfl rfl ?_
  refine g_pure (p_move rfl) rfl ?_
  refine g_yes rfl rfl ?_
  refine g_pure (p_move rfl) rfl ?_
  refine g_yes rfl rfl ?_
  refine g_call (Hin := []) (Hr := ?hr25) (R := ?rr25) rfl rfl rfl ?hin25 ?hc25 ?hk25
  case hin25 => repeat' (first | exact Cover.nil | exact Take.here | apply Cover.cons | apply Take.there)
  case hc25 => intro ρ' hρ hR; exact two_ok (op := 13) (by decide) ha hb e13
  rintro _ _ ⟨rfl, rfl⟩
  refine g_yes rfl rfl ?_
  refine g_pure (p_move rfl) rfl ?_
  refine g_yes rfl rfl ?_
  refine g_pure (p_move rfl) rfl ?_
  refine g_yes rfl rfl ?_
  refine g_call (Hin := []) (Hr := ?hr26) (R := ?rr26) rfl rfl rfl ?hin26 ?hc26 ?hk26
  case hin26 => repeat' (first | exact Cover.nil | exact Take.here | apply Cover.cons | apply Take.there)
  case hc26 => intro ρ' hρ hR; exact two_ok (op := 16) (by decide) ha hb e16
  rintro _ _ ⟨rfl, rfl⟩
  refine g_yes rfl rfl ?_
  first | refine g_pure (p_addi rfl rfl (by omega)) rfl ?_ | refine g_pure (p_add rfl rfl) rfl ?_
  refine g_yes rfl rfl ?_
  refine g_pure (p_neqF rfl rfl (by omega)) rfl ?_
  first | refine g_pure (p_pickt rfl rfl) rfl ?_ | refine g_pure (p_pickf rfl rfl) rfl ?_
  refine g_pure (p_move rfl) rfl ?_
  refine g_yes rfl rfl ?_
  refine g_pure (p_move rfl) rfl ?_
  refine g_yes rfl rfl ?_
  refine g_pure (p_move rfl) rfl ?_
  refine g_yes rfl rfl ?_
  refine g_call (Hin := []) (Hr := ?hr27) (R := ?rr27) rfl rfl rfl ?hin27 ?hc27 ?hk27
  case hin27 => repeat' (first | exact Cover.nil | exact Take.here | apply Cover.cons | apply Take.there)
  case hc27 => intro ρ' hρ hR; exact two_ok (op := 15) (by decide) ha hb e15
  rintro _ _ ⟨rfl, rfl⟩
  refine g_yes rfl rfl ?_
  refine g_pure (p_move rfl) rfl ?_
  refine g_yes rfl rfl ?_
  refine g_pure (p_move rfl) rfl ?_
  refine g_yes rfl rfl ?_
  refine g_call (Hin := []) (Hr := ?hr28) (R := ?rr28) rfl rfl rfl ?hin28 ?hc28 ?hk28
  case hin28 => repeat' (first | exact Cover.nil | exact Take.here | apply Cover.cons | apply Take.there)
  case hc28 => intro ρ' hρ hR; exact two_ok (op := 14) (by decide) ha hb e14
  rintro _ _ ⟨rfl, rfl⟩
  refine g_yes rfl rfl ?_
  first | refine g_pure (p_addi rfl rfl (by omega)) rfl ?_ | refine g_pure (p_add rfl rfl) rfl ?_
  refine g_yes rfl rfl ?_
  refine g_pure (p_neqF rfl rfl (by omega)) rfl ?_
  first | refine g_pure (p_pickt rfl rfl) rfl ?_ | refine g_pure (p_pickf rfl rfl) rfl ?_
  refine g_pure (p_move rfl) rfl ?_
  refine g_yes rfl rfl ?_
  refine g_pure (p_move rfl) rfl ?_
  refine g_yes rfl rfl ?_
  refine g_pure (p_move rfl) rfl ?_
  refine g_yes rfl rfl ?_
  refine g_call (Hin := []) (Hr := ?hr29) (R := ?rr29) rfl rfl rfl ?hin29 ?hc29 ?hk29
  case hin29 => repeat' (first | exact Cover.nil | exact Take.here | apply Cover.cons | apply Take.there)
  case hc29 => intro ρ' hρ hR; exact two_ok (op := 11) (by decide) ha hb e11
  rintro _ _ ⟨rfl, rfl⟩
  refine g_yes rfl rfl ?_
  refine g_pure (p_move rfl) rfl ?_
  refine g_yes rfl rfl ?_
  refine g_pure (p_move rfl) rfl ?_
  refine g_yes rfl rfl ?_
  refine g_call (Hin := []) (Hr := ?hr30) (R := ?rr30) rfl rfl rfl ?hin30 ?hc30 ?hk30
  case hin30 => repeat' (first | exact Cover.nil | exact Take.here | apply Cover.cons | apply Take.there)
  case hc30 => intro ρ' hρ hR; exact two_ok (op := 12) (by decide) ha hb e12
  rintro _ _ ⟨rfl, rfl⟩
  refine g_yes rfl rfl ?_
  first | refine g_pure (p_addi rfl rfl (by omega)) rfl ?_ | refine g_pure (p_add rfl rfl) rfl ?_
  refine g_yes rfl rfl ?_
  refine g_pure (p_neqF rfl rfl (by omega)) rfl ?_
  first | refine g_pure (p_pickt rfl rfl) rfl ?_ | refine g_pure (p_pickf rfl rfl) rfl ?_
  refine g_pure (p_move rfl) rfl ?_
  refine g_yes rfl rfl ?_
  refine g_pure (p_move rfl) rfl ?_
  refine g_yes rfl rfl ?_
  refine g_pure (p_move rfl) rfl ?_
  refine g_yes rfl rfl ?_
  refine g_call (Hin := []) (Hr := ?hr31) (R := ?rr31) rfl rfl rfl ?hin31 ?hc31 ?hk31
  case hin31 => repeat' (first | exact Cover.nil | exact Take.here | apply Cover.cons | apply Take.there)
  case hc31 => intro ρ' hρ hR; exact two_ok (op := 13) (by decide) ha hb e13
  rintro _ _ ⟨rfl, rfl⟩
  refine g_yes rfl rfl ?_
  refine g_pure (p_move rfl) rfl ?_
  refine g_yes rfl rfl ?_
  refine g_pure (p_move rfl) rfl ?_
  refine g_yes rfl rfl ?_
  refine g_call (Hin := []) (Hr := ?hr32) (R := ?rr32) rfl rfl rfl ?hin32 ?hc32 ?hk32
  case hin32 => repeat' (first | exact Cover.nil | exact Take.here | apply Cover.cons | apply Take.there)
  case hc32 => intro ρ' hρ hR; exact two_ok (op := 11) (by decide) ha hb e11
  rintro _ _ ⟨rfl, rfl⟩
  refine g_yes rfl rfl ?_
  first | refine g_pure (p_addi rfl rfl (by omega)) rfl ?_ | refine g_pure (p_add rfl rfl) rfl ?_
  refine g_yes rfl rfl ?_
  refine g_pure (p_move rfl) rfl ?_
  refine g_yes rfl rfl ?_
  refine g_pure (p_move rfl) rfl ?_
  refine g_yes rfl rfl ?_
  refine g_call (Hin := []) (Hr := ?hr33) (R := ?rr33) rfl rfl rfl ?hin33 ?hc33 ?hk33
  case hin33 => repeat' (first | exact Cover.nil | exact Take.here | apply Cover.cons | apply Take.there)
  case hc33 => intro ρ' hρ hR; exact two_ok (op := 14) (by decide) ha hb e14
  rintro _ _ ⟨rfl, rfl⟩
  refine g_yes rfl rfl ?_
  refine g_pure (p_neqF rfl rfl (by omega)) rfl ?_
  first | refine g_pure (p_pickt rfl rfl) rfl ?_ | refine g_pure (p_pickf rfl rfl) rfl ?_
  refine g_nil ?_
  refine g_qt ?_
  refine g_iff rfl ?_
  refine g_skip ?_
  refine g_qt ?_
  refine g_seq ?_
  refine g_seq ?_
  refine g_region ?_
  refine g_pure (p_assign rfl) rfl ?_
  refine g_nil ?_
  refine g_qt ?_
  refine g_block ?_
  refine g_loop (fun x : Nat => [(7, .int .i64 x)]) (fun _ => []) (fun x => x ≤ 2) (fun x => 2 - x) 0 (by decide) (by (repeat (first | exact trivial | refine ⟨by rfl, ?_⟩)); done) .nil fun x hx => ?_
  refine g_seq ?_
  refine g_seq ?_
  refine g_region ?_
  refine g_pure (p_move rfl) rfl ?_
  refine g_pure (p_lss rfl rfl) rfl ?_
  refine g_nil ?_
  refine g_qt ?_
  refine g_ifd rfl (fun q => ?_) (fun q => ?_)
  · refine g_skip ?_
    refine g_qt ?_
    refine g_seq ?_
    refine g_block ?_
    refine g_seq ?_
    refine g_region ?_
    refine g_pure (p_assign rfl) rfl ?_
    refine g_nil ?_
    refine g_qt ?_
    refine g_block ?_
    refine g_loop (fun y : Nat => [(7, .int .i64 x), (8, .int .i64 y)]) (fun _ => []) (fun y => y ≤ 2) (fun y => 2 - y) 0 (by decide) (by (repeat (first | exact trivial | refine ⟨by rfl, ?_⟩)); done) .nil fun y hy => ?_
    refine g_seq ?_
    refine g_seq ?_
    refine g_region ?_
    refine g_pure (p_move rfl) rfl ?_
    refine g_pure (p_lss rfl rfl) rfl ?_
    refine g_nil ?_
    refine g_qt ?_
    refine g_ifd rfl (fun p => ?_) (fun p => ?_)
    · obtain ⟨b3, b4, b1, b5⟩ := bools (x := x) (y := y) (by omega) (by omega)
      refine g_skip ?_
      refine g_qt ?_
      refine g_seq ?_
      refine g_block ?_
      refine g_seq ?_
      refine g_region ?_
      refine g_pure (p_move rfl) rfl ?_
      refine g_pure (p_move rfl) rfl ?_
      refine g_eff (e_bs (xs := [.tmp 130, .tmp 131]) rfl rfl rfl (by rfl) (by rfl) rfl (by rfl)) rfl (fun _ _ => ?_)
      rintro ⟨b132, rfl, rfl⟩
      refine g_call (Hin := []) (Hr := ?hr34) (R := ?rr34) rfl rfl rfl ?hin34 ?hc34 ?hk34
      case hin34 => repeat' (first | exact Cover.nil | exact Take.here | apply Cover.cons | apply Take.there)
      case hc34 => intro ρ' hρ hR; exact apply_ok 3 (args := [(x : Int), (y : Int)]) (RSl.of_blk hR.1.blk (by simp)) (by simp)
      rintro _ _ ⟨rfl, rfl⟩
      rw [b3]
      dsimp only
      refine g_pure (p_move rfl) rfl ?_
      refine g_pure (p_extract rfl rfl) rfl ?_
      refine g_pure (p_extract rfl rfl) rfl ?_
      refine g_pure (p_assign rfl) rfl ?_
      refine g_pure (p_assign rfl) rfl ?_
      refine g_nil ?_
      refine g_qt ?_
      refine g_seq ?_
      refine g_region ?_
      refine g_pure (p_move rfl) rfl ?_
      first | refine g_pure (p_subi rfl rfl (by omega)) rfl ?_ | refine g_pure (p_sub rfl rfl) rfl ?_
      refine g_pure (p_move rfl) rfl ?_
      first | refine g_pure (p_subi rfl rfl (by omega)) rfl ?_ | refine g_pure (p_sub rfl rfl) rfl ?_
      refine g_eff (e_bs (xs := [.tmp 138, .tmp 140]) rfl rfl rfl (by rfl) (by rfl) rfl (by rfl)) rfl (fun _ _ => ?_)
      rintro ⟨b141, rfl, rfl⟩
      refine g_call (Hin := []) (Hr := ?hr35) (R := ?rr35) rfl rfl rfl ?hin35 ?hc35 ?hk35
      case hin35 => repeat' (first | exact Cover.nil | exact Take.here | apply Cover.cons | apply Take.there)
      case hc35 => intro ρ' hρ hR; exact apply_ok 4 (args := [(1 : Int) - x, (1 : Int) - y]) (RSl.of_blk hR.1.blk (by simp)) (by simp)
      rintro _ _ ⟨rfl, rfl⟩
      rw [b4]
      dsimp only
      refine g_pure (p_move rfl) rfl ?_
      refine g_pure (p_extract rfl rfl) rfl ?_
      refine g_pure (p_extract rfl rfl) rfl ?_
      refine g_pure (p_assign rfl) rfl ?_
      refine g_pure (p_assign rfl) rfl ?_
      refine g_nil ?_
      refine g_qt ?_
      refine g_seq ?_
      refine g_region ?_
      refine g_pure (p_move rfl) rfl ?_
      refine g_eff (e_bs (xs := [.tmp 146]) rfl rfl rfl (by rfl) (by rfl) rfl (by rfl)) rfl (fun _ _ => ?_)
      rintro ⟨b147, rfl, rfl⟩
      refine g_call (Hin := []) (Hr := ?hr36) (R := ?rr36) rfl rfl rfl ?hin36 ?hc36 ?hk36
      case hin36 => repeat' (first | exact Cover.nil | exact Take.here | apply Cover.cons | apply Take.there)
      case hc36 => intro ρ' hρ hR; exact apply_ok 1 (args := [(x : Int) * y]) (RSl.of_blk hR.1.blk (by simp)) (by simp)
      rintro _ _ ⟨rfl, rfl⟩
      rw [b1]
      dsimp only
      refine g_pure (p_move rfl) rfl ?_
      refine g_pure (p_extract rfl rfl) rfl ?_
      refine g_pure (p_extract rfl rfl) rfl ?_
      refine g_pure (p_assign rfl) rfl ?_
      refine g_pure (p_assign rfl) rfl ?_
      refine g_nil ?_
      refine g_qt ?_
      refine g_seq ?_
      refine g_region ?_
      refine g_pure (p_move rfl) rfl ?_
      refine g_pure (p_move rfl) rfl ?_
      refine g_eff (e_bs (xs := [.tmp 152, .tmp 153]) rfl rfl rfl (by rfl) (by rfl) rfl (by rfl)) rfl (fun _ _ => ?_)
      rintro ⟨b154, rfl, rfl⟩
      refine g_call (Hin := []) (Hr := ?hr37) (R := ?rr37) rfl rfl rfl ?hin37 ?hc37 ?hk37
      case hin37 => repeat' (first | exact Cover.nil | exact Take.here | apply Cover.cons | apply Take.there)
      case hc37 => intro ρ' hρ hR; exact apply_ok 5 (args := [(x : Int), (y : Int)]) (RSl.of_blk hR.1.blk (by simp)) (by simp)
      rintro _ _ ⟨rfl, rfl⟩
      rw [b5]
      dsimp only
      refine g_pure (p_move rfl) rfl ?_
      refine g_pure (p_extract rfl rfl) rfl ?_
      refine g_pure (p_extract rfl rfl) rfl ?_
      refine g_pure (p_assign rfl) rfl ?_
      refine g_pure (p_assign rfl) rfl ?_
      refine g_nil ?_
      refine g_qt ?_
      refine g_seq ?_
      refine g_region ?_
      refine g_pure (p_move rfl) rfl ?_
      refine g_pure (p_move rfl) rfl ?_
      refine g_pure (p_neqF rfl rfl rfl) rfl ?_
      refine g_pure (p_move rfl) rfl ?_
      refine g_yes rfl rfl ?_
      refine g_pure (p_move rfl) rfl ?_
      refine g_yes rfl rfl ?_
      refine g_pure (p_neqF rfl rfl rfl) rfl ?_
      first | refine g_pure (p_pickt rfl rfl) rfl ?_ | refine g_pure (p_pickf rfl rfl) rfl ?_
      refine g_pure (p_move rfl) rfl ?_
      refine g_yes rfl rfl ?_
      refine g_pure (p_move rfl) rfl ?_
      refine g_yes rfl rfl ?_
      refine g_pure (p_neqF rfl rfl rfl) rfl ?_
      first | refine g_pure (p_pickt rfl rfl) rfl ?_ | refine g_pure (p_pickf rfl rfl) rfl ?_
      refine g_pure (p_move rfl) rfl ?_
      refine g_yes rfl rfl ?_
      refine g_pure (p_move rfl) rfl ?_
      refine g_yes rfl rfl ?_
      refine g_pure (p_move rfl) rfl ?_
      refine g_yes rfl rfl ?_
      refine g_pure (p_move rfl) rfl ?_
      refine g_yes rfl rfl ?_
      first | refine g_pure (p_addi rfl rfl (by omega)) rfl ?_ | refine g_pure (p_add rfl rfl) rfl ?_
      refine g_yes rfl rfl ?_
      first | refine g_pure (p_remn rfl rfl (by omega) (by omega)) rfl ?_ | refine g_pure (p_rem rfl rfl (by omega)) rfl ?_
      refine g_yes rfl rfl ?_
      refine g_pure (p_neqF rfl rfl rfl) rfl ?_
      first | refine g_pure (p_pickt rfl rfl) rfl ?_ | refine g_pure (p_pickf rfl rfl) rfl ?_
      refine g_nil ?_
      refine g_qt ?_
      refine g_iff rfl ?_
      refine g_skip ?_
      refine g_qb ?_
      refine g_qt ?_
      refine g_region ?_
      refine g_pure (p_move rfl) rfl ?_
      first | refine g_pure (p_addi rfl rfl (by omega)) rfl ?_ | refine g_pure (p_add rfl rfl) rfl ?_
      refine g_pure (p_assign rfl) rfl ?_
      refine g_nil ?_
      refine g_qn ?_
      exact g_next (y + 1) (by (repeat (first | exact trivial | refine ⟨by rfl, ?_⟩)); done) .nil (by omega) (by omega)
    · refine g_exit ?_
      refine g_qt_exit ?_
      refine g_qn_exit ?_
      refine g_qb_exit ?_
      refine g_qb ?_
      refine g_qt ?_
      refine g_region ?_
      refine g_pure (p_move rfl) rfl ?_
      first | refine g_pure (p_addi rfl rfl (by omega)) rfl ?_ | refine g_pure (p_add rfl rfl) rfl ?_
      refine g_pure (p_assign rfl) rfl ?_
      refine g_nil ?_
      refine g_qn ?_
      exact g_next (x + 1) (by (repeat (first | exact trivial | refine ⟨by rfl, ?_⟩)); done) .nil (by omega) (by omega)
  · refine g_exit ?_
    refine g_qt_exit ?_
    refine g_qn_exit ?_
    refine g_qb_exit ?_
    refine g_qt ?_
    refine g_seq ?_
    refine g_region ?_
    refine g_call (Hin := []) (Hr := ?hr38) (R := ?rr38) rfl rfl rfl ?hin38 ?hc38 ?hk38
    case hin38 => repeat' (first | exact Cover.nil | exact Take.here | apply Cover.cons | apply Take.there)
    case hc38 => intro ρ' hρ hR; exact vawake_ok (hk.mono hρ)
    rintro _ _ ⟨rfl, rfl⟩
    refine g_pure (p_assign rfl) rfl ?_
    refine g_nil ?_
    refine g_qt ?_
    refine g_ret ?_
    exact g_post (Ho := []) (rs := [.tmp 4]) rfl (.tmp rfl .nil) rfl .nil
end Go.Proofs.YtkbofpcnhjopaaaDoor
