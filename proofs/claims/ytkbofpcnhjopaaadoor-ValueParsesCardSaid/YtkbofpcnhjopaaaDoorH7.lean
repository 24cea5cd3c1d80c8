/- Chapter 05: ValueTyped, ValueTypes. Conditions: what the library's variables hold (LibK). -/
import Derived.Test.YtkbofpcnhjopaaaDoorH6
namespace Go.Z.Val
set_option maxRecDepth 8000
set_option linter.unusedVariables false
set_option linter.unusedSimpArgs false
set_option linter.unusedSectionVars false
open Go Go.Z
theorem computeF_in (op a b : Int) : -32768 ≤ computeF op a b ∧ computeF op a b ≤ 32767 := by
  have hm : ∀ x y : Int, y ≠ 0 → (-32768 ≤ x ∧ x ≤ 32767) → -32768 ≤ x.tmod y ∧ x.tmod y ≤ 32767 := by
    intro x y hy hx
    have h1 : (x.tmod y).natAbs ≤ x.natAbs := by rw [Int.natAbs_tmod]; exact Nat.mod_le _ _
    have h2 : 0 ≤ x → 0 ≤ x.tmod y := fun h => Int.tmod_nonneg y h
    have h3 : x ≤ 0 → x.tmod y ≤ 0 := fun h => by
      have := Int.tmod_nonneg y (a := -x) (by omega)
      rw [Int.neg_tmod] at this; omega
    omega
  unfold computeF
  (repeat' split) <;> first | exact wr_in _ | decide | exact hm _ _ (by assumption) (wr_in _)
theorem truth_in (b : Bool) : 0 ≤ truth b ∧ truth b ≤ 1 := by cases b <;> decide
/-- types and values of the operands of an operator -/
theorem typed_law {l : List En} {op t u a b : Int} {N : Nat} (hN : N = if op = 1 ∨ op = 2 then 1 else 2) (ha : tyHas l t a) (hb : tyHas l u b) :
    ((resultF op ([t, u].take N)).2 = 0 → (applyF op ([a, b].take N)).2 = 0 ∧ tyHas l (resultF op ([t, u].take N)).1 (applyF op ([a, b].take N)).1) ∧
    ((resultF op ([t, u].take N)).2 ≠ 0 → (applyF op ([a, b].take N)).2 ≠ 0 ∨ (resultF op ([t, u].take N)).2 = 10) := by
  have hg1 : op = 1 ∨ op = 2 → (groupF op).2 = 1 := by rintro (rfl | rfl) <;> rfl
  have hlenT : ([t, u].take N).length = N := by rw [List.length_take]; have : [t, u].length = 2 := rfl; split at hN <;> omega
  have hlenA : ([a, b].take N).length = N := by rw [List.length_take]; have : [a, b].length = 2 := rfl; split at hN <;> omega
  have hval : ∀ t a : Int, tyHas l t a → ∀ k t0, fitB k t0 t = true → argB k a = true := by
    intro t a h k t0 hf
    unfold fitB at hf
    unfold argB
    by_cases e1 : k = 1
    · rw [if_pos e1] at hf ⊢
      have := of_decide_eq_true hf
      subst this
      unfold tyHas at h
      rw [if_neg (by decide)] at h
      have e : tagN l 1 = 2 := rfl
      rw [e] at h
      exact decide_eq_true (by omega)
    · rw [if_neg e1] at hf ⊢
      by_cases e3 : k = 3
      · subst e3; rw [if_neg (by decide)]
      · rw [if_neg e3] at hf
        have := of_decide_eq_true hf
        subst this
        unfold tyHas at h
        rw [if_pos rfl] at h
        split
        · exact decide_eq_true h
        · rfl
  by_cases g0 : (groupF op).1 = 0
  · have e1 : (resultF op ([t, u].take N)).2 = 2 := by unfold resultF; rw [if_pos g0]
    have e2 : (applyF op ([a, b].take N)).2 = 2 := by unfold applyF; rw [if_pos g0]
    rw [e1, e2]
    exact ⟨fun h => absurd h (by decide), fun _ => .inl (by decide)⟩
  · by_cases gn : N = (groupF op).2
    · by_cases hall : (([t, u].take N).all (fitB (groupF op).1 (([t, u].take N).getD 0 0))) = true
      · have e1 : resultF op ([t, u].take N) = (if (groupF op).1 = 2 then 2 else 1, 0) := by unfold resultF; rw [if_neg g0, if_neg (by rw [hlenT]; simpa using gn), if_pos hall]
        have hargs : ([a, b].take N).all (argB (groupF op).1) = true := by
          rw [List.all_eq_true] at hall ⊢
          rcases (show N = 1 ∨ N = 2 by split at hN <;> omega) with rfl | rfl
          · intro x hx
            obtain rfl : x = a := by simpa using hx
            exact hval t x ha _ _ (hall t (by simp))
          · intro x hx
            rcases (show x = a ∨ x = b by simpa using hx) with rfl | rfl
            · exact hval t x ha _ _ (hall t (by simp))
            · exact hval u x hb _ _ (hall u (by simp))
        have e2 : applyF op ([a, b].take N) = (opF op (([a, b].take N).getD 0 0) (([a, b].take N).getD ((groupF op).2 - 1) 0), 0) := by unfold applyF; rw [if_neg g0, if_neg (by rw [hlenA]; simpa using gn), if_pos hargs]
        rw [e1, e2]
        refine ⟨fun _ => ⟨rfl, ?_⟩, fun h => absurd rfl h⟩
        dsimp only
        unfold opF
        split
        · unfold tyHas; rw [if_pos rfl]; exact computeF_in _ _ _
        · unfold tyHas; rw [if_neg (by decide)]
          have e : tagN l 1 = 2 := rfl
          rw [e]
          have := truth_in (holdsF op (([a, b].take N).getD 0 0) (([a, b].take N).getD ((groupF op).2 - 1) 0))
          omega
      · have e1 : resultF op ([t, u].take N) = (0, 10) := by unfold resultF; rw [if_neg g0, if_neg (by rw [hlenT]; simpa using gn), if_neg hall]
        rw [e1]
        exact ⟨fun h => absurd h (by decide), fun _ => .inr rfl⟩
    · have e1 : (resultF op ([t, u].take N)).2 = 9 := by unfold resultF; rw [if_neg g0, if_pos (by rw [hlenT]; exact gn)]
      have e2 : (applyF op ([a, b].take N)).2 = 9 := by unfold applyF; rw [if_neg g0, if_pos (by rw [hlenA]; exact gn)]
      rw [e1, e2]
      exact ⟨fun h => absurd h (by decide), fun _ => .inl (by decide)⟩
/-- the type of a name -/
def typeF (l : List En) (s : ByteArray) : Int × Bool := if s = boolT then (1, true) else if s = intT then (2, true) else match l.findIdx? (fun e => decide (e.1 = s)) with | some i => (3 + (i : Int), true) | none => (0, false)
theorem type_name {l : List En} {t : Int} (h : known l t) : (typeF l (nameF l t).1).2 = true ∧ (nameF l (typeF l (nameF l t).1).1).2 = true ∧ (nameF l (typeF l (nameF l t).1).1).1 = (nameF l t).1 ∧ (typeF l (nameF l t).1).1 ≤ t := by
  have h1 : nameF l 1 = (boolT, true) := rfl
  have h2 : nameF l 2 = (intT, true) := rfl
  have t1 : typeF l boolT = (1, true) := by unfold typeF; rw [if_pos rfl]
  have t2 : typeF l intT = (2, true) := by unfold typeF; rw [if_neg (by decide), if_pos rfl]
  by_cases e1 : t = 1
  · subst e1; rw [h1, t1, h1]; exact ⟨rfl, rfl, rfl, Int.le_refl _⟩
  · by_cases e2 : t = 2
    · subst e2; rw [h2, t2, h2]; exact ⟨rfl, rfl, rfl, Int.le_refl _⟩
    · have h3 : 3 ≤ t ∧ t - 3 < l.length := by rcases h with h | h | h <;> first | contradiction | exact h
      have hin : (t - 3).toNat < l.length := by omega
      have hn : nameF l t = ((l[(t - 3).toNat]'hin).1, true) := by unfold nameF; rw [if_neg e1, if_neg e2, enF_in h3]
      rw [hn]
      dsimp only
      by_cases b1 : (l[(t - 3).toNat]'hin).1 = boolT
      · rw [b1, t1, h1]; exact ⟨rfl, rfl, rfl, by dsimp only; omega⟩
      · by_cases b2 : (l[(t - 3).toNat]'hin).1 = intT
        · rw [b2, t2, h2]; exact ⟨rfl, rfl, rfl, by dsimp only; omega⟩
        · unfold typeF
          rw [if_neg b1, if_neg b2]
          cases hf : l.findIdx? (fun e => decide (e.1 = (l[(t - 3).toNat]'hin).1)) with
          | none =>
            rw [List.findIdx?_eq_none_iff] at hf
            have := hf _ (List.getElem_mem hin)
            simp at this
          | some i =>
            rw [List.findIdx?_eq_some_iff_getElem] at hf
            obtain ⟨hi, hp, hmin⟩ := hf
            have hle : i ≤ (t - 3).toNat := by
              by_cases hlt : i ≤ (t - 3).toNat
              · exact hlt
              · have := hmin (t - 3).toNat (by omega)
                simp at this
            dsimp only
            have hx : nameF l (3 + (i : Int)) = (l[i].1, true) := by
              unfold nameF
              rw [if_neg (by omega), if_neg (by omega), enF_in ⟨by omega, by omega⟩]
              simp only [show (3 + (i : Int) - 3).toNat = i by omega]
            rw [hx]
            exact ⟨rfl, rfl, of_decide_eq_true hp, by omega⟩
end Go.Z.Val
namespace Go.Proofs.YtkbofpcnhjopaaaDoor
set_option maxRecDepth 8000
set_option linter.unusedVariables false
set_option linter.unusedSimpArgs false
set_option linter.unusedSectionVars false
open Go Go.Z Go.Z.Val

theorem dknown_ok {ρ : Nat → Obj → Prop} {a : Option Addr} {c : Nat} {l : List En} (hl : l.length ≤ maxLen) (t : Int) (ht : I64 t) : Con Tryd.prog ρ 43 #[.slice a l.length c, .int .i64 t] [] (fun v H => v = .bool (decide (known l t)) ∧ H = []) := by
  have eM : maxLen = 9223372036854775807 := rfl
  obtain ⟨ht1, ht2⟩ := ht
  refine con_intro Tryd.func43 Tryd.call43 rfl Tryd.ntmps43 rfl (L := [(0, _), (1, _)]) rfl fun w hh => ?_
  refine g_seq ?_
  refine g_region ?_
  refine g_pure (p_assign rfl) rfl ?_
  refine g_nil ?_
  refine g_qt ?_
  refine g_seq ?_
  refine g_region ?_
  refine g_pure (p_move rfl) rfl ?_
  refine g_pure (p_eql rfl rfl) rfl ?_
  refine g_pure (p_move rfl) rfl ?_
  refine g_splitd rfl rfl (fun h1 => ?_) (fun h1 => ?_)
  · refine g_no rfl rfl rfl rfl ?_
    refine g_no rfl rfl rfl rfl ?_
    first | refine g_pure (p_pickt rfl rfl) rfl ?_ | refine g_pure (p_pickf rfl rfl) rfl ?_
    refine g_pure (p_move rfl) rfl ?_
    refine g_no rfl rfl rfl rfl ?_
    refine g_no rfl rfl rfl rfl ?_
    refine g_no rfl rfl rfl rfl ?_
    refine g_nou rfl rfl rfl ?_
    refine g_nou rfl rfl rfl ?_
    refine g_nou rfl rfl rfl ?_
    refine g_nou rfl rfl rfl ?_
    refine g_nou rfl rfl rfl ?_
    refine g_no rfl rfl rfl rfl ?_
    first | refine g_pure (p_pickt rfl rfl) rfl ?_ | refine g_pure (p_pickf rfl rfl) rfl ?_
    refine g_pure (p_assign rfl) rfl ?_
    refine g_nil ?_
    refine g_qt ?_
    refine g_ret ?_
    exact g_post (Ho := []) (rs := [.tmp 4]) rfl (.tmp rfl .nil) ⟨by show Value.bool _ = Value.bool _; congr 1; first | (rw [eq_comm, decide_eq_true_iff]; unfold known; omega) | (rw [eq_comm, decide_eq_false_iff_not]; unfold known; omega) | (rw [decide_eq_decide]; unfold known; omega), rfl⟩ (by repeat' (first | exact Cover.nil | exact Take.here | apply Cover.cons | apply Take.there))
  · refine g_yes rfl rfl ?_
    refine g_pure (p_move rfl) rfl ?_
    refine g_yes rfl rfl ?_
    refine g_pure (p_eql rfl rfl) rfl ?_
    first | refine g_pure (p_pickt rfl rfl) rfl ?_ | refine g_pure (p_pickf rfl rfl) rfl ?_
    refine g_pure (p_move rfl) rfl ?_
    refine g_splitd rfl rfl (fun h4 => ?_) (fun h4 => ?_)
    · refine g_no rfl rfl rfl rfl ?_
      refine g_no rfl rfl rfl rfl ?_
      refine g_no rfl rfl rfl rfl ?_
      refine g_nou rfl rfl rfl ?_
      refine g_nou rfl rfl rfl ?_
      refine g_nou rfl rfl rfl ?_
      refine g_nou rfl rfl rfl ?_
      refine g_nou rfl rfl rfl ?_
      refine g_no rfl rfl rfl rfl ?_
      first | refine g_pure (p_pickt rfl rfl) rfl ?_ | refine g_pure (p_pickf rfl rfl) rfl ?_
      refine g_pure (p_assign rfl) rfl ?_
      refine g_nil ?_
      refine g_qt ?_
      refine g_ret ?_
      exact g_post (Ho := []) (rs := [.tmp 4]) rfl (.tmp rfl .nil) ⟨by show Value.bool _ = Value.bool _; congr 1; first | (rw [eq_comm, decide_eq_true_iff]; unfold known; omega) | (rw [eq_comm, decide_eq_false_iff_not]; unfold known; omega) | (rw [decide_eq_decide]; unfold known; omega), rfl⟩ (by repeat' (first | exact Cover.nil | exact Take.here | apply Cover.cons | apply Take.there))
    · refine g_yes rfl rfl ?_
      refine g_pure (p_move rfl) rfl ?_
      refine g_yes rfl rfl ?_
      refine g_pure (p_geq rfl rfl) rfl ?_
      refine g_yes rfl rfl ?_
      refine g_pure (p_move rfl) rfl ?_
      refine g_splitd rfl rfl (fun h6 => ?_) (fun h6 => ?_)
      · refine g_yes rfl rfl ?_
        refine g_pure (p_move rfl) rfl ?_
        refine g_yes rfl rfl ?_
        first | refine g_pure (p_subi rfl rfl (by omega)) rfl ?_ | refine g_pure (p_sub rfl rfl) rfl ?_
        refine g_yes rfl rfl ?_
        refine g_pure (p_move rfl) rfl ?_
        refine g_yes rfl rfl ?_
        refine g_pure (p_len (by rfl) rfl) rfl ?_
        refine g_yes rfl rfl ?_
        refine g_pure (p_lss rfl rfl) rfl ?_
        refine g_yes rfl rfl ?_
        first | refine g_pure (p_pickt rfl rfl) rfl ?_ | refine g_pure (p_pickf rfl rfl) rfl ?_
        first | refine g_pure (p_pickt rfl rfl) rfl ?_ | refine g_pure (p_pickf rfl rfl) rfl ?_
        refine g_pure (p_assign rfl) rfl ?_
        refine g_nil ?_
        refine g_qt ?_
        refine g_ret ?_
        exact g_post (Ho := []) (rs := [.tmp 4]) rfl (.tmp rfl .nil) ⟨by show Value.bool _ = Value.bool _; congr 1; first | (rw [eq_comm, decide_eq_true_iff]; unfold known; omega) | (rw [eq_comm, decide_eq_false_iff_not]; unfold known; omega) | (rw [decide_eq_decide]; unfold known; omega), rfl⟩ (by repeat' (first | exact Cover.nil | exact Take.here | apply Cover.cons | apply Take.there))
      · refine g_no rfl rfl rfl rfl ?_
        refine g_no rfl rfl rfl rfl ?_
        refine g_no rfl rfl rfl rfl ?_
        refine g_no rfl rfl rfl rfl ?_
        refine g_no rfl rfl rfl rfl ?_
        refine g_yes rfl rfl ?_
        first | refine g_pure (p_pickt rfl rfl) rfl ?_ | refine g_pure (p_pickf rfl rfl) rfl ?_
        first | refine g_pure (p_pickt rfl rfl) rfl ?_ | refine g_pure (p_pickf rfl rfl) rfl ?_
        refine g_pure (p_assign rfl) rfl ?_
        refine g_nil ?_
        refine g_qt ?_
        refine g_ret ?_
        exact g_post (Ho := []) (rs := [.tmp 4]) rfl (.tmp rfl .nil) ⟨by show Value.bool _ = Value.bool _; congr 1; first | (rw [eq_comm, decide_eq_true_iff]; unfold known; omega) | (rw [eq_comm, decide_eq_false_iff_not]; unfold known; omega) | (rw [decide_eq_decide]; unfold known; omega), rfl⟩ (by repeat' (first | exact Cover.nil | exact Take.here | apply Cover.cons | apply Take.there))
theorem dname_ok {ρ : Nat → Obj → Prop} {a : Option Addr} {c : Nat} {l : List En} (h : EnR ρ a l) (hl : l.length ≤ maxLen) (t : Int) (ht : I64 t) : Con Tryd.prog ρ 37 #[.slice a l.length c, .int .i64 t] [] (fun v H => v = .tuple #[.string (nameF l t).1, .bool (nameF l t).2] ∧ H = []) := by
  have eM : maxLen = 9223372036854775807 := rfl
  have ht' := ht
  obtain ⟨ht1, ht2⟩ := ht'
  refine con_intro Tryd.func37 Tryd.call37 rfl Tryd.ntmps37 rfl (L := [(0, _), (1, _)]) rfl fun w hh => ?_
  refine g_seq ?_
  refine g_region ?_
  refine g_pure (p_assign rfl) rfl ?_
  refine g_pure (p_assign rfl) rfl ?_
  refine g_nil ?_
  refine g_qt ?_
  refine g_seq ?_
  refine g_seq ?_
  refine g_region ?_
  refine g_pure (p_move rfl) rfl ?_
  refine g_pure (p_move rfl) rfl ?_
  refine g_call (Hin := []) (Hr := ?hr1) (R := ?rr1) rfl rfl rfl ?hin1 ?hc1 ?hk1
  case hin1 => repeat' (first | exact Cover.nil | exact Take.here | apply Cover.cons | apply Take.there)
  case hc1 => intro ρ' hρ hR; exact dknown_ok hl t ht
  rintro _ _ ⟨rfl, rfl⟩
  refine g_pure (p_not rfl) rfl ?_
  refine g_nil ?_
  refine g_qt ?_
  refine g_ifnd rfl (fun h1 => ?_) (fun h1 => ?_)
  · have e1 : nameF l t = (noE.1, false) := by
      unfold nameF
      rw [if_neg (fun e => h1 (.inl e)), if_neg (fun e => h1 (.inr (.inl e))), enF_out (fun e => h1 (.inr (.inr e)))]
    rw [e1]
    refine g_seq ?_
    refine g_region ?_
    refine g_pure (p_assign rfl) rfl ?_
    refine g_pure (p_assign rfl) rfl ?_
    refine g_nil ?_
    refine g_qt ?_
    refine g_ret ?_
    refine g_qt_ret ?_
    exact g_post (Ho := []) (rs := [.tmp 4, .tmp 5]) rfl (.tmp rfl (.tmp rfl .nil)) ⟨rfl, rfl⟩ (by repeat' (first | exact Cover.nil | exact Take.here | apply Cover.cons | apply Take.there))
  · refine g_skip ?_
    refine g_qt ?_
    refine g_seq ?_
    refine g_seq ?_
    refine g_region ?_
    refine g_pure (p_move rfl) rfl ?_
    refine g_pure (p_eql rfl rfl) rfl ?_
    refine g_nil ?_
    refine g_qt ?_
    refine g_ifd rfl (fun h2 => ?_) (fun h2 => ?_)
    · refine g_seq ?_
      refine g_region ?_
      refine g_pure (p_assign rfl) rfl ?_
      refine g_pure (p_assign rfl) rfl ?_
      refine g_nil ?_
      refine g_qt ?_
      refine g_ret ?_
      refine g_qt_ret ?_
      exact g_post (Ho := []) (rs := [.tmp 4, .tmp 5]) rfl (.tmp rfl (.tmp rfl .nil)) ⟨by unfold nameF; rw [if_pos h2]; rfl, rfl⟩ (by repeat' (first | exact Cover.nil | exact Take.here | apply Cover.cons | apply Take.there))
    · refine g_skip ?_
      refine g_qt ?_
      refine g_seq ?_
      refine g_seq ?_
      refine g_region ?_
      refine g_pure (p_move rfl) rfl ?_
      refine g_pure (p_eql rfl rfl) rfl ?_
      refine g_nil ?_
      refine g_qt ?_
      refine g_ifd rfl (fun h3 => ?_) (fun h3 => ?_)
      · refine g_seq ?_
        refine g_region ?_
        refine g_pure (p_assign rfl) rfl ?_
        refine g_pure (p_assign rfl) rfl ?_
        refine g_nil ?_
        refine g_qt ?_
        refine g_ret ?_
        refine g_qt_ret ?_
        exact g_post (Ho := []) (rs := [.tmp 4, .tmp 5]) rfl (.tmp rfl (.tmp rfl .nil)) ⟨by unfold nameF; rw [if_neg h2, if_pos h3]; rfl, rfl⟩ (by repeat' (first | exact Cover.nil | exact Take.here | apply Cover.cons | apply Take.there))
      · have h5 : 3 ≤ t ∧ t - 3 < l.length := by rcases h1 with h | h | h <;> first | contradiction | exact h
        have hin : (t - 3).toNat < l.length := by omega
        obtain ⟨⟨_, bl, ol, kl, Tl, fl, hkk⟩, he⟩ := h
        obtain ⟨l1, l2, l3⟩ := hkk (by omega)
        obtain ⟨_, x0, _⟩ := en_at l3 hin
        refine g_skip ?_
        refine g_qt ?_
        refine g_seq ?_
        refine g_region ?_
        refine g_pure (p_move rfl) rfl ?_
        refine g_pure (p_move rfl) rfl ?_
        first | refine g_pure (p_subi rfl rfl (by omega)) rfl ?_ | refine g_pure (p_sub rfl rfl) rfl ?_
        refine g_pure (p_indexAddr rfl rfl (by omega) (fun _ => l1)) rfl ?_
        refine g_pure (p_fieldAddr rfl) rfl ?_
        refine g_pure (p_load (by rfl) rfl (Has.ro l2) x0) rfl ?_
        refine g_pure (p_assign rfl) rfl ?_
        refine g_pure (p_assign rfl) rfl ?_
        refine g_nil ?_
        refine g_qt ?_
        refine g_ret ?_
        exact g_post (Ho := []) (rs := [.tmp 4, .tmp 5]) rfl (.tmp rfl (.tmp rfl .nil)) ⟨by unfold nameF; rw [if_neg h2, if_neg h3, enF_in h5]; rfl, rfl⟩ (by repeat' (first | exact Cover.nil | exact Take.here | apply Cover.cons | apply Take.there))
theorem vdhas_ok {ρ : Nat → Obj → Prop} {a : Option Addr} {c : Nat} {l : List En} (h : EnR ρ a l) (hl : l.length ≤ maxLen) (t v : Int) (ht : I64 t) : Con Tryd.prog ρ 35 #[.slice a l.length c, .int .i64 t, .int .i64 v] [] (fun u H => u = .bool (decide (tyHas l t v)) ∧ H = []) := by
  refine con_intro Tryd.func35 Tryd.call35 rfl Tryd.ntmps35 rfl (L := [(0, _), (1, _), (2, _)]) rfl fun w hh => ?_
  refine g_seq ?_
  refine g_region ?_
  refine g_pure (p_assign rfl) rfl ?_
  refine g_nil ?_
  refine g_qt ?_
  refine g_seq ?_
  refine g_seq ?_
  refine g_region ?_
  refine g_pure (p_move rfl) rfl ?_
  refine g_pure (p_eql rfl rfl) rfl ?_
  refine g_nil ?_
  refine g_qt ?_
  refine g_ifdL rfl (fun h1 => ?_) (fun h1 => ?_)
  · refine g_seq ?_
    refine g_region ?_
    refine g_pure (p_move rfl) rfl ?_
    refine g_pure (p_geq rfl rfl) rfl ?_
    refine g_pure (p_move rfl) rfl ?_
    refine g_splitd rfl rfl (fun h2 => ?_) (fun h2 => ?_)
    · refine g_yes rfl rfl ?_
      refine g_pure (p_move rfl) rfl ?_
      refine g_yes rfl rfl ?_
      refine g_pure (p_leq rfl rfl) rfl ?_
      first | refine g_pure (p_pickt rfl rfl) rfl ?_ | refine g_pure (p_pickf rfl rfl) rfl ?_
      refine g_pure (p_assign rfl) rfl ?_
      refine g_nil ?_
      refine g_qt ?_
      refine g_ret ?_
      refine g_qt_ret ?_
      exact g_post (Ho := []) (rs := [.tmp 6]) rfl (.tmp rfl .nil) ⟨by show Value.bool _ = Value.bool _; congr 1; first | (rw [eq_comm, decide_eq_false_iff_not]; unfold tyHas; first | (rw [if_pos (by omega)]; omega) | (rw [if_neg (by omega)]; omega)) | (rw [decide_eq_decide]; unfold tyHas; first | (rw [if_pos (by omega)]; omega) | (rw [if_neg (by omega)]; omega)), rfl⟩ (by repeat' (first | exact Cover.nil | exact Take.here | apply Cover.cons | apply Take.there))
    · refine g_no rfl rfl rfl rfl ?_
      refine g_no rfl rfl rfl rfl ?_
      first | refine g_pure (p_pickt rfl rfl) rfl ?_ | refine g_pure (p_pickf rfl rfl) rfl ?_
      refine g_pure (p_assign rfl) rfl ?_
      refine g_nil ?_
      refine g_qt ?_
      refine g_ret ?_
      refine g_qt_ret ?_
      exact g_post (Ho := []) (rs := [.tmp 6]) rfl (.tmp rfl .nil) ⟨by show Value.bool _ = Value.bool _; congr 1; first | (rw [eq_comm, decide_eq_false_iff_not]; unfold tyHas; first | (rw [if_pos (by omega)]; omega) | (rw [if_neg (by omega)]; omega)) | (rw [decide_eq_decide]; unfold tyHas; first | (rw [if_pos (by omega)]; omega) | (rw [if_neg (by omega)]; omega)), rfl⟩ (by repeat' (first | exact Cover.nil | exact Take.here | apply Cover.cons | apply Take.there))
  · refine g_skip ?_
    refine g_qt ?_
    refine g_seq ?_
    refine g_region ?_
    refine g_pure (p_move rfl) rfl ?_
    refine g_pure (p_geq rfl rfl) rfl ?_
    refine g_pure (p_move rfl) rfl ?_
    refine g_splitd rfl rfl (fun h3 => ?_) (fun h3 => ?_)
    · refine g_yes rfl rfl ?_
      refine g_pure (p_move rfl) rfl ?_
      refine g_yes rfl rfl ?_
      refine g_pure (p_move rfl) rfl ?_
      refine g_yes rfl rfl ?_
      refine g_pure (p_move rfl) rfl ?_
      refine g_yes rfl rfl ?_
      refine g_call (Hin := []) (Hr := ?hr2) (R := ?rr2) rfl rfl rfl ?hin2 ?hc2 ?hk2
      case hin2 => repeat' (first | exact Cover.nil | exact Take.here | apply Cover.cons | apply Take.there)
      case hc2 => intro ρ' hρ hR; exact dsize_ok (h.mono hρ) hl t ht
      rintro _ _ ⟨rfl, rfl⟩
      refine g_yes rfl rfl ?_
      refine g_pure (p_lss rfl rfl) rfl ?_
      first | refine g_pure (p_pickt rfl rfl) rfl ?_ | refine g_pure (p_pickf rfl rfl) rfl ?_
      refine g_pure (p_assign rfl) rfl ?_
      refine g_nil ?_
      refine g_qt ?_
      refine g_ret ?_
      exact g_post (Ho := []) (rs := [.tmp 6]) rfl (.tmp rfl .nil) ⟨by show Value.bool _ = Value.bool _; congr 1; first | (rw [eq_comm, decide_eq_false_iff_not]; unfold tyHas; first | (rw [if_pos (by omega)]; omega) | (rw [if_neg (by omega)]; omega)) | (rw [decide_eq_decide]; unfold tyHas; first | (rw [if_pos (by omega)]; omega) | (rw [if_neg (by omega)]; omega)), rfl⟩ (by repeat' (first | exact Cover.nil | exact Take.here | apply Cover.cons | apply Take.there))
    · refine g_no rfl rfl rfl rfl ?_
      refine g_no rfl rfl rfl rfl ?_
      refine g_no rfl rfl rfl rfl ?_
      refine g_no rfl rfl rfl rfl ?_
      refine g_no rfl rfl rfl rfl ?_
      first | refine g_pure (p_pickt rfl rfl) rfl ?_ | refine g_pure (p_pickf rfl rfl) rfl ?_
      refine g_pure (p_assign rfl) rfl ?_
      refine g_nil ?_
      refine g_qt ?_
      refine g_ret ?_
      exact g_post (Ho := []) (rs := [.tmp 6]) rfl (.tmp rfl .nil) ⟨by show Value.bool _ = Value.bool _; congr 1; first | (rw [eq_comm, decide_eq_false_iff_not]; unfold tyHas; first | (rw [if_pos (by omega)]; omega) | (rw [if_neg (by omega)]; omega)) | (rw [decide_eq_decide]; unfold tyHas; first | (rw [if_pos (by omega)]; omega) | (rw [if_neg (by omega)]; omega)), rfl⟩ (by repeat' (first | exact Cover.nil | exact Take.here | apply Cover.cons | apply Take.there))

theorem findE_take {l : List En} {s : ByteArray} {i : Nat} (hi : i < l.length) (hno : ∀ e ∈ l.take i, ¬ e.1 = s) (h : l[i].1 = s) : l.findIdx? (fun e => decide (e.1 = s)) = some i := by
  rw [List.findIdx?_eq_some_iff_getElem]
  refine ⟨hi, decide_eq_true h, fun j hj => ?_⟩
  have := hno l[j] (by rw [List.mem_take_iff_getElem]; exact ⟨j, by omega, rfl⟩)
  simp [this]
theorem findE_none {l : List En} {s : ByteArray} (hno : ∀ e ∈ l, ¬ e.1 = s) : l.findIdx? (fun e => decide (e.1 = s)) = none := by
  rw [List.findIdx?_eq_none_iff]
  intro e he
  simp [hno e he]
theorem type_ok {ρ : Nat → Obj → Prop} {a : Option Addr} {c : Nat} {l : List En} (h : EnR ρ a l) (hl : l.length ≤ 9223372036854775800) (s : ByteArray) : Con Tryd.prog ρ 38 #[.slice a l.length c, .string s] [] (fun v H => v = .tuple #[.int .i64 (typeF l s).1, .bool (typeF l s).2] ∧ H = []) := by
  obtain ⟨⟨_, bl, ol, kl, Tl, fl, hkk⟩, he⟩ := h
  refine con_intro Tryd.func38 Tryd.call38 rfl Tryd.ntmps38 rfl (L := [(0, _), (1, _)]) rfl fun w hh => ?_
  refine g_seq ?_
  refine g_region ?_
  refine g_pure (p_assign rfl) rfl ?_
  refine g_pure (p_assign rfl) rfl ?_
  refine g_nil ?_
  refine g_qt ?_
  refine g_seq ?_
  refine g_seq ?_
  refine g_region ?_
  refine g_pure (p_move rfl) rfl ?_
  refine g_nil ?_
  refine g_qt ?_
  refine g_block ?_
  refine g_seq ?_
  refine g_region ?_
  refine g_pure (p_eqls (by rfl) rfl rfl) rfl ?_
  refine g_pure (p_assign rfl) rfl ?_
  refine g_nil ?_
  refine g_qt ?_
  refine g_ifd rfl (fun h1 => ?_) (fun h1 => ?_)
  · refine g_seq ?_
    refine g_region ?_
    refine g_pure (p_assign rfl) rfl ?_
    refine g_pure (p_assign rfl) rfl ?_
    refine g_nil ?_
    refine g_qt ?_
    refine g_ret ?_
    refine g_qb_ret ?_
    refine g_qt_ret ?_
    exact g_post (Ho := []) (rs := [.tmp 4, .tmp 5]) rfl (.tmp rfl (.tmp rfl .nil)) ⟨by unfold typeF; rw [if_pos (show s = boolT from h1)]; rfl, rfl⟩ (by repeat' (first | exact Cover.nil | exact Take.here | apply Cover.cons | apply Take.there))
  · refine g_seq ?_
    refine g_region ?_
    refine g_pure (p_eqls (by rfl) rfl rfl) rfl ?_
    refine g_pure (p_assign rfl) rfl ?_
    refine g_nil ?_
    refine g_qt ?_
    refine g_ifd rfl (fun h2 => ?_) (fun h2 => ?_)
    · refine g_seq ?_
      refine g_region ?_
      refine g_pure (p_assign rfl) rfl ?_
      refine g_pure (p_assign rfl) rfl ?_
      refine g_nil ?_
      refine g_qt ?_
      refine g_ret ?_
      refine g_qb_ret ?_
      refine g_qt_ret ?_
      exact g_post (Ho := []) (rs := [.tmp 4, .tmp 5]) rfl (.tmp rfl (.tmp rfl .nil)) ⟨by unfold typeF; rw [if_neg (show ¬ s = boolT from h1), if_pos (show s = intT from h2)]; rfl, rfl⟩ (by repeat' (first | exact Cover.nil | exact Take.here | apply Cover.cons | apply Take.there))
    · have h1' : ¬ s = boolT := h1
      have h2' : ¬ s = intT := h2
      refine g_skip ?_
      refine g_qb ?_
      refine g_qt ?_
      refine g_seq ?_
      refine g_seq ?_
      refine g_region ?_
      refine g_pure (p_move rfl) rfl ?_
      refine g_pure (p_len (by rfl) rfl) rfl ?_
      refine g_pure (p_move rfl) rfl ?_
      refine g_nil ?_
      refine g_qt ?_
      refine g_block ?_
      refine g_loop (fun i : Nat => [(1, .string s), (13, .slice a l.length c), (14, .int .i64 l.length), (15, .int .i64 i)]) (fun _ => []) (fun i => i ≤ l.length ∧ ∀ e ∈ l.take i, ¬ e.1 = s) (fun i => l.length - i) 0 ⟨Nat.zero_le _, by simp⟩ (by (repeat (first | exact trivial | refine ⟨by rfl, ?_⟩)); done) .nil fun i ⟨hi, hno⟩ => ?_
      refine g_seq ?_
      refine g_region ?_
      refine g_pure (p_lss rfl rfl) rfl ?_
      refine g_nil ?_
      refine g_qt ?_
      refine g_seq ?_
      refine g_ifd rfl (fun h3 => ?_) (fun h3 => ?_)
      · have hk' : i < l.length := by omega
        obtain ⟨l1, l2, l3⟩ := hkk (by omega)
        obtain ⟨x0, _, _⟩ := en_at l3 hk'
        have hyes : l[i].1 = s → typeF l s = (3 + (i : Int), true) := fun e => by unfold typeF; rw [if_neg h1', if_neg h2', findE_take hk' hno e]
        have hnx : ¬ l[i].1 = s → ∀ e ∈ l.take (i + 1), ¬ e.1 = s := fun e => all_take hk' hno e
        generalize l[i] = e at *
        obtain ⟨e1, e2, e3, e4⟩ := e
        have x0' : sub kl (ol + (i : Int).toNat * 2) 2 = some [.string e1, .slice e2 e4.length e3] := x0
        refine g_skip ?_
        refine g_qt ?_
        refine g_seq ?_
        refine g_block ?_
        refine g_seq ?_
        refine g_region ?_
        refine g_pure (p_move rfl) rfl ?_
        refine g_pure (p_indexAddr rfl rfl (by omega) (fun _ => l1)) rfl ?_
        refine g_pure (p_loadN (by rfl) rfl (Has.ro l2) x0') rfl ?_
        refine g_eff (e_alloc (by rfl)) rfl (fun _ _ => ?_)
        rintro ⟨b7, rfl, rfl⟩
        refine g_pure (p_assign rfl) rfl ?_
        first | refine g_eff0 (e_storeO rfl rfl (by rfl) (by rfl) (by rfl) (by repeat' (first | exact Take.here | apply Take.there)) (by rfl)) (fun _ _ => ?_) | refine g_eff0 (e_storeN rfl rfl (by rfl) (by rfl) (by rfl) (by repeat' (first | exact Take.here | apply Take.there)) (by simp)) (fun _ _ => ?_)
        rintro rfl
        refine g_nil ?_
        refine g_qt ?_
        refine g_seq ?_
        refine g_region ?_
        refine g_pure (p_fieldAddr rfl) rfl ?_
        refine g_pure (p_load (by rfl) rfl (by first | (apply Has.own; (repeat' (first | exact Take.here | apply Take.there)); done) | exact Has.ro (by assumption)) (by first | rfl | assumption)) rfl ?_
        refine g_pure (p_move rfl) rfl ?_
        refine g_pure (p_eqls (by rfl) rfl rfl) rfl ?_
        refine g_nil ?_
        refine g_qt ?_
        refine g_ifd rfl (fun h4 => ?_) (fun h4 => ?_)
        · refine g_seq ?_
          refine g_region ?_
          refine g_pure (p_move rfl) rfl ?_
          first | refine g_pure (p_addi rfl rfl (by omega)) rfl ?_ | refine g_pure (p_add rfl rfl) rfl ?_
          refine g_pure (p_assign rfl) rfl ?_
          refine g_pure (p_assign rfl) rfl ?_
          refine g_nil ?_
          refine g_qt ?_
          refine g_ret ?_
          refine g_qb_ret ?_
          refine g_qt_ret ?_
          refine g_qn_ret ?_
          refine g_qb_ret ?_
          refine g_qt_ret ?_
          exact g_post (Ho := []) (rs := [.tmp 4, .tmp 5]) rfl (.tmp rfl (.tmp rfl .nil)) ⟨by rw [hyes h4]; rfl, rfl⟩ (by repeat' (first | exact Cover.nil | exact Take.here | apply Cover.cons | apply Take.there))
        · refine g_skip ?_
          refine g_qb ?_
          refine g_qt ?_
          refine g_region ?_
          first | refine g_pure (p_addi rfl rfl (by omega)) rfl ?_ | refine g_pure (p_add rfl rfl) rfl ?_
          refine g_pure (p_move rfl) rfl ?_
          refine g_nil ?_
          refine g_qn ?_
          exact g_next (i + 1) (by (repeat (first | exact trivial | refine ⟨by rfl, ?_⟩)); done) .nil ⟨by omega, hnx h4⟩ (by omega)
      · obtain rfl : i = l.length := by omega
        rw [List.take_length] at hno
        refine g_exit ?_
        refine g_qt_exit ?_
        refine g_qn_exit ?_
        refine g_qb_exit ?_
        refine g_qt ?_
        refine g_seq ?_
        refine g_region ?_
        refine g_pure (p_assign rfl) rfl ?_
        refine g_pure (p_assign rfl) rfl ?_
        refine g_nil ?_
        refine g_qt ?_
        refine g_ret ?_
        exact g_post (Ho := []) (rs := [.tmp 4, .tmp 5]) rfl (.tmp rfl (.tmp rfl .nil)) ⟨by unfold typeF; rw [if_neg h1', if_neg h2', findE_none hno]; rfl, rfl⟩ (by repeat' (first | exact Cover.nil | exact Take.here | apply Cover.cons | apply Take.there))
theorem dtype_ok {ρ : Nat → Obj → Prop} {a : Option Addr} {c : Nat} {l : List En} (h : EnR ρ a l) (hl : l.length ≤ 9223372036854775800) (s : ByteArray) : Con Tryd.prog ρ 39 #[.slice a l.length c, .string s] [] (fun v H => v = .tuple #[.int .i64 (typeF l s).1, .bool (typeF l s).2] ∧ H = []) := by
  obtain ⟨⟨_, bl, ol, kl, Tl, fl, hkk⟩, he⟩ := h
  refine con_intro Tryd.func39 Tryd.call39 rfl Tryd.ntmps39 rfl (L := [(0, _), (1, _)]) rfl fun w hh => ?_
  refine g_seq ?_
  refine g_region ?_
  refine g_pure (p_assign rfl) rfl ?_
  refine g_pure (p_assign rfl) rfl ?_
  refine g_nil ?_
  refine g_qt ?_
  refine g_seq ?_
  refine g_seq ?_
  refine g_region ?_
  refine g_pure (p_move rfl) rfl ?_
  refine g_pure (p_eqls (by rfl) rfl rfl) rfl ?_
  refine g_nil ?_
  refine g_qt ?_
  refine g_ifd rfl (fun h1 => ?_) (fun h1 => ?_)
  · refine g_seq ?_
    refine g_region ?_
    refine g_pure (p_assign rfl) rfl ?_
    refine g_pure (p_assign rfl) rfl ?_
    refine g_nil ?_
    refine g_qt ?_
    refine g_ret ?_
    refine g_qt_ret ?_
    exact g_post (Ho := []) (rs := [.tmp 4, .tmp 5]) rfl (.tmp rfl (.tmp rfl .nil)) ⟨by unfold typeF; rw [if_pos (show s = boolT from h1)]; rfl, rfl⟩ (by repeat' (first | exact Cover.nil | exact Take.here | apply Cover.cons | apply Take.there))
  · refine g_skip ?_
    refine g_qt ?_
    refine g_seq ?_
    refine g_seq ?_
    refine g_region ?_
    refine g_pure (p_move rfl) rfl ?_
    refine g_pure (p_eqls (by rfl) rfl rfl) rfl ?_
    refine g_nil ?_
    refine g_qt ?_
    refine g_ifd rfl (fun h2 => ?_) (fun h2 => ?_)
    · refine g_seq ?_
      refine g_region ?_
      refine g_pure (p_assign rfl) rfl ?_
      refine g_pure (p_assign rfl) rfl ?_
      refine g_nil ?_
      refine g_qt ?_
      refine g_ret ?_
      refine g_qt_ret ?_
      exact g_post (Ho := []) (rs := [.tmp 4, .tmp 5]) rfl (.tmp rfl (.tmp rfl .nil)) ⟨by unfold typeF; rw [if_neg (show ¬ s = boolT from h1), if_pos (show s = intT from h2)]; rfl, rfl⟩ (by repeat' (first | exact Cover.nil | exact Take.here | apply Cover.cons | apply Take.there))
    · have h1' : ¬ s = boolT := h1
      have h2' : ¬ s = intT := h2
      refine g_skip ?_
      refine g_qt ?_
      refine g_seq ?_
      refine g_seq ?_
      refine g_region ?_
      refine g_pure (p_assign rfl) rfl ?_
      refine g_nil ?_
      refine g_qt ?_
      refine g_block ?_
      refine g_loop (fun i : Nat => [(0, .slice a l.length c), (1, .string s), (6, .int .i64 i)]) (fun _ => []) (fun i => i ≤ l.length ∧ ∀ e ∈ l.take i, ¬ e.1 = s) (fun i => l.length - i) 0 ⟨Nat.zero_le _, by simp⟩ (by (repeat (first | exact trivial | refine ⟨by rfl, ?_⟩)); done) .nil fun i ⟨hi, hno⟩ => ?_
      refine g_seq ?_
      refine g_seq ?_
      refine g_region ?_
      refine g_pure (p_move rfl) rfl ?_
      refine g_pure (p_move rfl) rfl ?_
      refine g_pure (p_len (by rfl) rfl) rfl ?_
      refine g_pure (p_lss rfl rfl) rfl ?_
      refine g_nil ?_
      refine g_qt ?_
      refine g_ifd rfl (fun h3 => ?_) (fun h3 => ?_)
      · have hk' : i < l.length := by omega
        obtain ⟨l1, l2, l3⟩ := hkk (by omega)
        obtain ⟨_, x0, _⟩ := en_at l3 hk'
        have hyes : l[i].1 = s → typeF l s = (3 + (i : Int), true) := fun e => by unfold typeF; rw [if_neg h1', if_neg h2', findE_take hk' hno e]
        have hnx : ¬ l[i].1 = s → ∀ e ∈ l.take (i + 1), ¬ e.1 = s := fun e => all_take hk' hno e
        refine g_skip ?_
        refine g_qt ?_
        refine g_seq ?_
        refine g_block ?_
        refine g_seq ?_
        refine g_region ?_
        refine g_pure (p_move rfl) rfl ?_
        refine g_pure (p_move rfl) rfl ?_
        refine g_pure (p_indexAddr rfl rfl (by omega) (fun _ => l1)) rfl ?_
        refine g_pure (p_fieldAddr rfl) rfl ?_
        refine g_pure (p_load (by rfl) rfl (Has.ro l2) x0) rfl ?_
        refine g_pure (p_move rfl) rfl ?_
        refine g_pure (p_eqls (by rfl) rfl rfl) rfl ?_
        refine g_nil ?_
        refine g_qt ?_
        refine g_ifd rfl (fun h4 => ?_) (fun h4 => ?_)
        · refine g_seq ?_
          refine g_region ?_
          refine g_pure (p_move rfl) rfl ?_
          first | refine g_pure (p_addi rfl rfl (by omega)) rfl ?_ | refine g_pure (p_add rfl rfl) rfl ?_
          refine g_pure (p_assign rfl) rfl ?_
          refine g_pure (p_assign rfl) rfl ?_
          refine g_nil ?_
          refine g_qt ?_
          refine g_ret ?_
          refine g_qb_ret ?_
          refine g_qt_ret ?_
          refine g_qn_ret ?_
          refine g_qb_ret ?_
          refine g_qt_ret ?_
          exact g_post (Ho := []) (rs := [.tmp 4, .tmp 5]) rfl (.tmp rfl (.tmp rfl .nil)) ⟨by rw [hyes h4]; rfl, rfl⟩ (by repeat' (first | exact Cover.nil | exact Take.here | apply Cover.cons | apply Take.there))
        · refine g_skip ?_
          refine g_qb ?_
          refine g_qt ?_
          refine g_region ?_
          refine g_pure (p_move rfl) rfl ?_
          first | refine g_pure (p_addi rfl rfl (by omega)) rfl ?_ | refine g_pure (p_add rfl rfl) rfl ?_
          refine g_pure (p_assign rfl) rfl ?_
          refine g_nil ?_
          refine g_qn ?_
          exact g_next (i + 1) (by (repeat (first | exact trivial | refine ⟨by rfl, ?_⟩)); done) .nil ⟨by omega, hnx h4⟩ (by omega)
      · obtain rfl : i = l.length := by omega
        rw [List.take_length] at hno
        refine g_exit ?_
        refine g_qt_exit ?_
        refine g_qn_exit ?_
        refine g_qb_exit ?_
        refine g_qt ?_
        refine g_seq ?_
        refine g_region ?_
        refine g_pure (p_assign rfl) rfl ?_
        refine g_pure (p_assign rfl) rfl ?_
        refine g_nil ?_
        refine g_qt ?_
        refine g_ret ?_
        exact g_post (Ho := []) (rs := [.tmp 4, .tmp 5]) rfl (.tmp rfl (.tmp rfl .nil)) ⟨by unfold typeF; rw [if_neg h1', if_neg h2', findE_none hno]; rfl, rfl⟩ (by repeat' (first | exact Cover.nil | exact Take.here | apply Cover.cons | apply Take.there))
end Go.Proofs.YtkbofpcnhjopaaaDoor
