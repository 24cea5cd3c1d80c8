/- Chapter 05: ValueTexts, ValueParses. Conditions: what the library's variables hold (LibK). -/
import Derived.Test.YtkbofpcnhjopaaaDoorH9
namespace Go.Proofs.YtkbofpcnhjopaaaDoor
set_option maxRecDepth 8000
set_option linter.unusedVariables false
set_option linter.unusedSimpArgs false
set_option linter.unusedSectionVars false
open Go Go.Z Go.Z.Val

theorem bool_text (v : Int) : strOf (Lib.formatBool (decide (v = 1))) = if v = 1 then ⟨#[116, 114, 117, 101]⟩ else ⟨#[102, 97, 108, 115, 101]⟩ := by
  by_cases h : v = 1
  · rw [if_pos h, decide_eq_true h]; rfl
  · rw [if_neg h, decide_eq_false h]; rfl
theorem textF_ok {l : List En} {t v : Int} {s : ByteArray} (h : textF l t v = (s, 0)) : known l t ∧ tyHas l t v := by
  unfold textF at h
  by_cases h1 : known l t
  · rw [if_neg (not_not_intro h1)] at h
    by_cases h2 : tyHas l t v
    · exact ⟨h1, h2⟩
    · rw [if_pos h2] at h; injection h with _ e; exact absurd e (by decide)
  · rw [if_pos h1] at h; injection h with _ e; exact absurd e (by decide)
theorem textF_two {l : List En} {t v : Int} (h1 : known l t) (h2 : tyHas l t v) : (textF l t v).2 = 0 := by
  unfold textF
  rw [if_neg (not_not_intro h1), if_neg (not_not_intro h2)]
  (repeat' split) <;> rfl
/-- a text is read as the least value with that text -/
theorem text_parse {l : List En} {t v : Int} {s : ByteArray} (h : textF l t v = (s, 0)) : (parseF l t s).2 = 0 ∧ textF l t (parseF l t s).1 = (s, 0) ∧ ((parseF l t s).1 = v ∨ 3 ≤ t ∧ (parseF l t s).1 < v) := by
  obtain ⟨h1, h2⟩ := textF_ok h
  unfold parseF
  rw [if_neg (not_not_intro h1)]
  by_cases e2 : t = 2
  · subst e2
    have hr : -32768 ≤ v ∧ v ≤ 32767 := by unfold tyHas at h2; rwa [if_pos rfl] at h2
    have hs : strOf (Lib.itoa v) = s := by
      unfold textF at h
      rw [if_neg (not_not_intro h1), if_neg (not_not_intro h2), if_neg (by decide), if_pos rfl] at h
      injection h
    rw [if_pos rfl, numF_of hr hs]
    exact ⟨rfl, h, .inl rfl⟩
  · rw [if_neg e2]
    have hb : 0 ≤ v ∧ v < tagN l t := by unfold tyHas at h2; rwa [if_neg e2] at h2
    cases hf : (List.range (tagN l t).toNat).find? (fun j : Nat => decide (textF l t j = (s, 0))) with
    | none =>
      rw [List.find?_eq_none] at hf
      have := hf v.toNat (List.mem_range.2 (by omega))
      rw [show ((v.toNat : Nat) : Int) = v by omega] at this
      simp [h] at this
    | some i =>
      rw [List.find?_range_eq_some] at hf
      obtain ⟨q1, q2, q3⟩ := hf
      have ht := of_decide_eq_true q1
      have hle : i ≤ v.toNat := by
        by_cases hlt : i ≤ v.toNat
        · exact hlt
        · have := q3 v.toNat (by omega)
          rw [show ((v.toNat : Nat) : Int) = v by omega] at this
          simp [h] at this
      refine ⟨rfl, ht, ?_⟩
      dsimp only
      by_cases e1 : t = 1
      · subst e1
        have htag : tagN l 1 = 2 := rfl
        rw [htag] at hb
        have hi : tyHas l 1 i := (textF_ok ht).2
        unfold textF at h ht
        rw [if_neg (not_not_intro h1), if_neg (not_not_intro h2), if_pos rfl, bool_text] at h
        rw [if_neg (not_not_intro h1), if_neg (not_not_intro hi), if_pos rfl, bool_text] at ht
        injection h with a1 _
        injection ht with a2 _
        rw [← a1] at a2
        by_cases c1 : v = 1
        · by_cases c2 : (i : Int) = 1
          · exact .inl (by omega)
          · rw [if_pos c1, if_neg c2] at a2; exact absurd a2 (by decide)
        · exact .inl (by omega)
      · have h3 : 3 ≤ t := by rcases h1 with h | h | h <;> first | contradiction | exact h.1
        by_cases c : (i : Int) = v
        · exact .inl c
        · exact .inr ⟨h3, by omega⟩
/-- what was read has that text -/
theorem parse_text {l : List En} {t : Int} {s : ByteArray} (h : (parseF l t s).2 = 0) : textF l t (parseF l t s).1 = (s, 0) := by
  unfold parseF at h ⊢
  by_cases h1 : known l t
  · rw [if_neg (not_not_intro h1)] at h ⊢
    by_cases e2 : t = 2
    · subst e2
      rw [if_pos rfl] at h ⊢
      cases hn : numF s with
      | none => rw [hn] at h; exact absurd h (by decide)
      | some n =>
        obtain ⟨hr, hs⟩ := numF_some hn
        have h2 : tyHas l 2 n := by unfold tyHas; rw [if_pos rfl]; exact hr
        unfold textF
        dsimp only
        rw [if_neg (not_not_intro h1), if_neg (not_not_intro h2), if_neg (by decide), if_pos rfl, hs]
    · rw [if_neg e2] at h ⊢
      cases hf : (List.range (tagN l t).toNat).find? (fun j : Nat => decide (textF l t j = (s, 0))) with
      | none => rw [hf] at h; exact absurd h (by decide)
      | some i =>
        rw [List.find?_range_eq_some] at hf
        exact of_decide_eq_true hf.1
  · rw [if_pos h1] at h; exact absurd h (by decide)

theorem dtext_ok {ρ : Nat → Obj → Prop} {a : Option Addr} {c : Nat} {l : List En} (h : EnR ρ a l) (hl : l.length ≤ maxLen) (t v : Int) (ht : I64 t) : Con Tryd.prog ρ 14 #[.slice a l.length c, .int .i64 t, .int .i64 v] [] (fun u H => u = .tuple #[.string (textF l t v).1, .int .i64 (textF l t v).2] ∧ H = []) := by
  have eM : maxLen = 9223372036854775807 := rfl
  have ht' := ht
  obtain ⟨ht1, ht2⟩ := ht'
  refine con_intro Tryd.func14 Tryd.call14 rfl Tryd.ntmps14 rfl (L := [(0, _), (1, _), (2, _)]) rfl fun w hh => ?_
  refine g_seq ?_
  refine g_region ?_
  refine g_pure (p_assign rfl) rfl ?_
  refine g_pure (p_assign rfl) rfl ?_
  refine g_nil ?_
  refine g_qt ?_
  refine g_seq ?_
  refine g_seq ?_
  refine g_region ?_
  refine g_pure (p_move rfl) rfl ?_
  refine g_pure (p_move rfl) rfl ?_
  refine g_call (Hin := []) (Hr := ?hr1) (R := ?rr1) rfl rfl rfl ?hin1 ?hc1 ?hk1
  case hin1 => repeat' (first | exact Cover.nil | exact Take.here | apply Cover.cons | apply Take.there)
  case hc1 => intro ρ' hρ hR; exact dknown_ok hl t ht
  rintro _ _ ⟨rfl, rfl⟩
  refine g_pure (p_not rfl) rfl ?_
  refine g_nil ?_
  refine g_qt ?_
  refine g_ifnd rfl (fun h1 => ?_) (fun h1 => ?_)
  · refine g_seq ?_
    refine g_region ?_
    refine g_pure (p_assign rfl) rfl ?_
    refine g_pure (p_assign rfl) rfl ?_
    refine g_nil ?_
    refine g_qt ?_
    refine g_ret ?_
    refine g_qt_ret ?_
    exact g_post (Ho := []) (rs := [.tmp 6, .tmp 7]) rfl (.tmp rfl (.tmp rfl .nil)) ⟨by unfold textF; rw [if_pos h1]; rfl, rfl⟩ (by repeat' (first | exact Cover.nil | exact Take.here | apply Cover.cons | apply Take.there))
  · refine g_skip ?_
    refine g_qt ?_
    refine g_seq ?_
    refine g_seq ?_
    refine g_region ?_
    refine g_pure (p_move rfl) rfl ?_
    refine g_pure (p_move rfl) rfl ?_
    refine g_pure (p_move rfl) rfl ?_
    refine g_call (Hin := []) (Hr := ?hr2) (R := ?rr2) rfl rfl rfl ?hin2 ?hc2 ?hk2
    case hin2 => repeat' (first | exact Cover.nil | exact Take.here | apply Cover.cons | apply Take.there)
    case hc2 => intro ρ' hρ hR; exact vdhas_ok (h.mono hρ) hl t v ht
    rintro _ _ ⟨rfl, rfl⟩
    refine g_pure (p_not rfl) rfl ?_
    refine g_nil ?_
    refine g_qt ?_
    refine g_ifnd rfl (fun h2 => ?_) (fun h2 => ?_)
    · refine g_seq ?_
      refine g_region ?_
      refine g_pure (p_assign rfl) rfl ?_
      refine g_pure (p_assign rfl) rfl ?_
      refine g_nil ?_
      refine g_qt ?_
      refine g_ret ?_
      refine g_qt_ret ?_
      exact g_post (Ho := []) (rs := [.tmp 6, .tmp 7]) rfl (.tmp rfl (.tmp rfl .nil)) ⟨by unfold textF; rw [if_neg (not_not_intro h1), if_pos h2]; rfl, rfl⟩ (by repeat' (first | exact Cover.nil | exact Take.here | apply Cover.cons | apply Take.there))
    · refine g_skip ?_
      refine g_qt ?_
      refine g_seq ?_
      refine g_seq ?_
      refine g_region ?_
      refine g_pure (p_move rfl) rfl ?_
      refine g_pure (p_eql rfl rfl) rfl ?_
      refine g_nil ?_
      refine g_qt ?_
      refine g_ifd rfl (fun h4 => ?_) (fun h4 => ?_)
      · have hv : -32768 ≤ v ∧ v ≤ 32767 := by unfold tyHas at h2; rwa [if_pos h4] at h2
        refine g_seq ?_
        refine g_region ?_
        refine g_pure (p_move rfl) rfl ?_
        refine g_call (Hin := []) (Hr := ?hr3) (R := ?rr3) rfl rfl rfl ?hin3 ?hc3 ?hk3
        case hin3 => repeat' (first | exact Cover.nil | exact Take.here | apply Cover.cons | apply Take.there)
        case hc3 => intro ρ' hρ hR; exact decimal_ok v hv
        rintro _ _ ⟨rfl, rfl⟩
        refine g_pure (p_assign rfl) rfl ?_
        refine g_pure (p_assign rfl) rfl ?_
        refine g_nil ?_
        refine g_qt ?_
        refine g_ret ?_
        refine g_qt_ret ?_
        exact g_post (Ho := []) (rs := [.tmp 6, .tmp 7]) rfl (.tmp rfl (.tmp rfl .nil)) ⟨by unfold textF; rw [if_neg (not_not_intro h1), if_neg (not_not_intro h2), if_neg (by omega), if_pos h4]; rfl, rfl⟩ (by repeat' (first | exact Cover.nil | exact Take.here | apply Cover.cons | apply Take.there))
      · refine g_skip ?_
        refine g_qt ?_
        refine g_seq ?_
        refine g_seq ?_
        refine g_region ?_
        refine g_pure (p_move rfl) rfl ?_
        refine g_pure (p_eql rfl rfl) rfl ?_
        refine g_nil ?_
        refine g_qt ?_
        refine g_ifd rfl (fun h3 => ?_) (fun h3 => ?_)
        · refine g_seq ?_
          refine g_seq ?_
          refine g_region ?_
          refine g_pure (p_move rfl) rfl ?_
          refine g_pure (p_eql rfl rfl) rfl ?_
          refine g_nil ?_
          refine g_qt ?_
          refine g_ifd rfl (fun h6 => ?_) (fun h6 => ?_)
          · refine g_seq ?_
            refine g_region ?_
            refine g_pure (p_assign rfl) rfl ?_
            refine g_pure (p_assign rfl) rfl ?_
            refine g_nil ?_
            refine g_qt ?_
            refine g_ret ?_
            refine g_qt_ret ?_
            refine g_qt_ret ?_
            exact g_post (Ho := []) (rs := [.tmp 6, .tmp 7]) rfl (.tmp rfl (.tmp rfl .nil)) ⟨by unfold textF; rw [if_neg (not_not_intro h1), if_neg (not_not_intro h2), if_pos h3, bool_text, if_pos h6]; rfl, rfl⟩ (by repeat' (first | exact Cover.nil | exact Take.here | apply Cover.cons | apply Take.there))
          · refine g_skip ?_
            refine g_qt ?_
            refine g_seq ?_
            refine g_region ?_
            refine g_pure (p_assign rfl) rfl ?_
            refine g_pure (p_assign rfl) rfl ?_
            refine g_nil ?_
            refine g_qt ?_
            refine g_ret ?_
            refine g_qt_ret ?_
            exact g_post (Ho := []) (rs := [.tmp 6, .tmp 7]) rfl (.tmp rfl (.tmp rfl .nil)) ⟨by unfold textF; rw [if_neg (not_not_intro h1), if_neg (not_not_intro h2), if_pos h3, bool_text, if_neg h6]; rfl, rfl⟩ (by repeat' (first | exact Cover.nil | exact Take.here | apply Cover.cons | apply Take.there))
        · have h5 : 3 ≤ t ∧ t - 3 < l.length := by rcases h1 with h | h | h <;> first | contradiction | exact h
          have hin : (t - 3).toNat < l.length := by omega
          have hv : 0 ≤ v ∧ v < tagN l t := by unfold tyHas at h2; rwa [if_neg h4] at h2
          have htag : tagN l t = (l[(t - 3).toNat]'hin).2.2.2.length := by unfold tagN; rw [if_neg h3, if_neg h4, enF_in h5]
          obtain ⟨⟨_, bl, ol, kl, Tl, fl, hkk⟩, he⟩ := h
          have heo := he _ (List.getElem_mem hin)
          obtain ⟨l1, l2, l3⟩ := hkk (by omega)
          obtain ⟨_, _, x0⟩ := en_at l3 hin
          have hres : textF l t v = (((l[(t - 3).toNat]'hin).2.2.2).getD v.toNat .empty, 0) := by unfold textF; rw [if_neg (not_not_intro h1), if_neg (not_not_intro h2), if_neg h3, if_neg h4, enF_in h5]
          rw [hres]
          rw [htag] at hv
          generalize (l[(t - 3).toNat]'hin) = e at *
          obtain ⟨e1, e2, e3, e4⟩ := e
          obtain ⟨⟨_, bm, om, km, Tm, fm, hm⟩, _, _, _⟩ := heo
          dsimp only at hv x0 hm
          obtain ⟨m1, m2, m3⟩ := hm (by omega)
          have y0 : km[om + v.toNat * 1]? = some (.string (e4.getD v.toNat .empty)) := by
            rw [Nat.mul_one]
            refine m3 _ _ ?_
            rw [List.getElem?_map, List.getD_eq_getElem?_getD, List.getElem?_eq_getElem (by omega)]; rfl
          refine g_skip ?_
          refine g_qt ?_
          refine g_seq ?_
          refine g_region ?_
          refine g_pure (p_move rfl) rfl ?_
          refine g_pure (p_move rfl) rfl ?_
          first | refine g_pure (p_subi rfl rfl (by omega)) rfl ?_ | refine g_pure (p_sub rfl rfl) rfl ?_
          refine g_pure (p_indexAddr rfl rfl (by omega) (fun _ => l1)) rfl ?_
          refine g_pure (p_fieldAddr rfl) rfl ?_
          refine g_pure (p_load (by rfl) rfl (Has.ro l2) x0) rfl ?_
          refine g_pure (p_move rfl) rfl ?_
          refine g_pure (p_indexAddr rfl rfl (by omega) (fun _ => m1)) rfl ?_
          refine g_pure (p_load (by rfl) rfl (Has.ro m2) y0) rfl ?_
          refine g_pure (p_assign rfl) rfl ?_
          refine g_pure (p_assign rfl) rfl ?_
          refine g_nil ?_
          refine g_qt ?_
          refine g_ret ?_
          exact g_post (Ho := []) (rs := [.tmp 6, .tmp 7]) rfl (.tmp rfl (.tmp rfl .nil)) ⟨rfl, rfl⟩ (by repeat' (first | exact Cover.nil | exact Take.here | apply Cover.cons | apply Take.there))

theorem dparse_ok {ρ : Nat → Obj → Prop} {a : Option Addr} {c : Nat} {l : List En} (h : EnR ρ a l) (hl : l.length ≤ maxLen) (t : Int) (ht : I64 t) (s : ByteArray) (hs : s.size ≤ maxLen) : Con Tryd.prog ρ 16 #[.slice a l.length c, .int .i64 t, .string s] [] (fun u H => u = .tuple #[.int .i64 (parseF l t s).1, .int .i64 (parseF l t s).2] ∧ H = []) := by
  have hb := tagN_in (t := t) fun e he => (h.2 e he).2.2.2
  refine con_intro Tryd.func16 Tryd.call16 rfl Tryd.ntmps16 rfl (L := [(0, _), (1, _), (2, _)]) rfl fun w hh => ?_
  refine g_seq ?_
  refine g_region ?_
  refine g_pure (p_assign rfl) rfl ?_
  refine g_pure (p_assign rfl) rfl ?_
  refine g_nil ?_
  refine g_qt ?_
  refine g_seq ?_
  refine g_seq ?_
  refine g_region ?_
  refine g_pure (p_move rfl) rfl ?_
  refine g_pure (p_move rfl) rfl ?_
  refine g_call (Hin := []) (Hr := ?hr4) (R := ?rr4) rfl rfl rfl ?hin4 ?hc4 ?hk4
  case hin4 => repeat' (first | exact Cover.nil | exact Take.here | apply Cover.cons | apply Take.there)
  case hc4 => intro ρ' hρ hR; exact dknown_ok hl t ht
  rintro _ _ ⟨rfl, rfl⟩
  refine g_pure (p_not rfl) rfl ?_
  refine g_nil ?_
  refine g_qt ?_
  refine g_ifnd rfl (fun h1 => ?_) (fun h1 => ?_)
  · refine g_seq ?_
    refine g_region ?_
    refine g_pure (p_assign rfl) rfl ?_
    refine g_pure (p_assign rfl) rfl ?_
    refine g_nil ?_
    refine g_qt ?_
    refine g_ret ?_
    refine g_qt_ret ?_
    exact g_post (Ho := []) (rs := [.tmp 6, .tmp 7]) rfl (.tmp rfl (.tmp rfl .nil)) ⟨by unfold parseF; rw [if_pos h1]; rfl, rfl⟩ (by repeat' (first | exact Cover.nil | exact Take.here | apply Cover.cons | apply Take.there))
  · refine g_skip ?_
    refine g_qt ?_
    refine g_seq ?_
    refine g_seq ?_
    refine g_region ?_
    refine g_pure (p_move rfl) rfl ?_
    refine g_pure (p_eql rfl rfl) rfl ?_
    refine g_nil ?_
    refine g_qt ?_
    refine g_ifd rfl (fun h2 => ?_) (fun h2 => ?_)
    · have hpF : parseF l t s = (match numF s with | some n => (n, 0) | none => (0, 5)) := by unfold parseF; rw [if_neg (not_not_intro h1), if_pos h2]; rfl
      rw [hpF]
      refine g_seq ?_
      refine g_region ?_
      refine g_pure (p_move rfl) rfl ?_
      refine g_call (Hin := []) (Hr := ?hr5) (R := ?rr5) rfl rfl rfl ?hin5 ?hc5 ?hk5
      case hin5 => repeat' (first | exact Cover.nil | exact Take.here | apply Cover.cons | apply Take.there)
      case hc5 => intro ρ' hρ hR; exact number_ok s hs
      rintro _ _ ⟨⟨n, ok, rfl, q1, q2⟩, rfl⟩
      cases ok with
      | true =>
        rw [q1 rfl]
        refine g_pure (p_move rfl) rfl ?_
        refine g_pure (p_extract rfl rfl) rfl ?_
        refine g_pure (p_extract rfl rfl) rfl ?_
        refine g_pure (p_assign rfl) rfl ?_
        refine g_pure (p_assign rfl) rfl ?_
        refine g_nil ?_
        refine g_qt ?_
        refine g_seq ?_
        refine g_seq ?_
        refine g_region ?_
        refine g_pure (p_move rfl) rfl ?_
        refine g_pure (p_not rfl) rfl ?_
        refine g_nil ?_
        refine g_qt ?_
        refine g_iff rfl ?_
        refine g_skip ?_
        refine g_qt ?_
        refine g_seq ?_
        refine g_region ?_
        refine g_pure (p_move rfl) rfl ?_
        refine g_pure (p_assign rfl) rfl ?_
        refine g_pure (p_assign rfl) rfl ?_
        refine g_nil ?_
        refine g_qt ?_
        refine g_ret ?_
        refine g_qt_ret ?_
        exact g_post (Ho := []) (rs := [.tmp 6, .tmp 7]) rfl (.tmp rfl (.tmp rfl .nil)) ⟨rfl, rfl⟩ (by repeat' (first | exact Cover.nil | exact Take.here | apply Cover.cons | apply Take.there))
      | false =>
        rw [q2 rfl]
        refine g_pure (p_move rfl) rfl ?_
        refine g_pure (p_extract rfl rfl) rfl ?_
        refine g_pure (p_extract rfl rfl) rfl ?_
        refine g_pure (p_assign rfl) rfl ?_
        refine g_pure (p_assign rfl) rfl ?_
        refine g_nil ?_
        refine g_qt ?_
        refine g_seq ?_
        refine g_seq ?_
        refine g_region ?_
        refine g_pure (p_move rfl) rfl ?_
        refine g_pure (p_not rfl) rfl ?_
        refine g_nil ?_
        refine g_qt ?_
        refine g_ift rfl ?_
        refine g_seq ?_
        refine g_region ?_
        refine g_pure (p_assign rfl) rfl ?_
        refine g_pure (p_assign rfl) rfl ?_
        refine g_nil ?_
        refine g_qt ?_
        refine g_ret ?_
        refine g_qt_ret ?_
        refine g_qt_ret ?_
        exact g_post (Ho := []) (rs := [.tmp 6, .tmp 7]) rfl (.tmp rfl (.tmp rfl .nil)) ⟨rfl, rfl⟩ (by repeat' (first | exact Cover.nil | exact Take.here | apply Cover.cons | apply Take.there))
    · have hpF : parseF l t s = (match (List.range (tagN l t).toNat).find? (fun v : Nat => decide (textF l t v = (s, 0))) with | some v => ((v : Int), 0) | none => (0, 5)) := by unfold parseF; rw [if_neg (not_not_intro h1), if_neg h2]; rfl
      refine g_skip ?_
      refine g_qt ?_
      refine g_seq ?_
      refine g_seq ?_
      refine g_region ?_
      refine g_pure (p_assign rfl) rfl ?_
      refine g_nil ?_
      refine g_qt ?_
      refine g_block ?_
      refine g_loop (fun i : Nat => [(0, .slice a l.length c), (1, .int .i64 t), (2, .string s), (10, .int .i64 i)]) (fun _ => []) (fun i => i ≤ (tagN l t).toNat ∧ ∀ j : Nat, j < i → decide (textF l t j = (s, 0)) = false) (fun i => (tagN l t).toNat - i) 0 ⟨Nat.zero_le _, fun j hj => absurd hj (Nat.not_lt_zero _)⟩ (by (repeat (first | exact trivial | refine ⟨by rfl, ?_⟩)); done) .nil fun i ⟨hi, hno⟩ => ?_
      refine g_seq ?_
      refine g_seq ?_
      refine g_region ?_
      refine g_pure (p_move rfl) rfl ?_
      refine g_pure (p_move rfl) rfl ?_
      refine g_pure (p_move rfl) rfl ?_
      refine g_call (Hin := []) (Hr := ?hr6) (R := ?rr6) rfl rfl rfl ?hin6 ?hc6 ?hk6
      case hin6 => repeat' (first | exact Cover.nil | exact Take.here | apply Cover.cons | apply Take.there)
      case hc6 => intro ρ' hρ hR; exact dsize_ok (h.mono hρ) hl t ht
      rintro _ _ ⟨rfl, rfl⟩
      refine g_pure (p_lss rfl rfl) rfl ?_
      refine g_nil ?_
      refine g_qt ?_
      refine g_ifd rfl (fun h3 => ?_) (fun h3 => ?_)
      · have hhas : tyHas l t i := by unfold tyHas; rw [if_neg h2]; omega
        have h20 := textF_two h1 hhas
        refine g_skip ?_
        refine g_qt ?_
        refine g_seq ?_
        refine g_block ?_
        refine g_seq ?_
        refine g_region ?_
        refine g_pure (p_move rfl) rfl ?_
        refine g_pure (p_move rfl) rfl ?_
        refine g_pure (p_move rfl) rfl ?_
        refine g_call (Hin := []) (Hr := ?hr7) (R := ?rr7) rfl rfl rfl ?hin7 ?hc7 ?hk7
        case hin7 => repeat' (first | exact Cover.nil | exact Take.here | apply Cover.cons | apply Take.there)
        case hc7 => intro ρ' hρ hR; exact dtext_ok (h.mono hρ) hl t i ht
        rintro _ _ ⟨rfl, rfl⟩
        have hyes : textF l t i = (s, 0) → parseF l t s = ((i : Int), 0) := fun hh => by rw [hpF, find_take (by omega) hno (decide_eq_true hh)]
        have hnxt : ¬ textF l t i = (s, 0) → ∀ j : Nat, j < i + 1 → decide (textF l t j = (s, 0)) = false := fun hh j hj => by
          by_cases e : j = i
          · subst e; exact decide_eq_false hh
          · exact hno j (by omega)
        generalize hx : textF l t (i : Int) = x at *
        obtain ⟨x1, x2⟩ := x
        dsimp only at h20 ⊢
        subst h20
        refine g_pure (p_move rfl) rfl ?_
        refine g_pure (p_extract rfl rfl) rfl ?_
        refine g_pure (p_extract rfl rfl) rfl ?_
        refine g_pure (p_assign rfl) rfl ?_
        refine g_pure (p_assign rfl) rfl ?_
        refine g_nil ?_
        refine g_qt ?_
        refine g_seq ?_
        refine g_region ?_
        refine g_pure (p_move rfl) rfl ?_
        refine g_pure (p_move rfl) rfl ?_
        refine g_pure (p_eqls (by rfl) rfl rfl) rfl ?_
        refine g_nil ?_
        refine g_qt ?_
        refine g_ifdL rfl (fun h1 => ?_) (fun h1 => ?_)
        · refine g_seq ?_
          refine g_region ?_
          refine g_pure (p_move rfl) rfl ?_
          refine g_pure (p_assign rfl) rfl ?_
          refine g_pure (p_assign rfl) rfl ?_
          refine g_nil ?_
          refine g_qt ?_
          refine g_ret ?_
          refine g_qb_ret ?_
          refine g_qt_ret ?_
          refine g_qn_ret ?_
          refine g_qb_ret ?_
          refine g_qt_ret ?_
          exact g_post (Ho := []) (rs := [.tmp 6, .tmp 7]) rfl (.tmp rfl (.tmp rfl .nil)) ⟨by rw [hyes (by congr 1)]; rfl, rfl⟩ (by repeat' (first | exact Cover.nil | exact Take.here | apply Cover.cons | apply Take.there))
        · refine g_skip ?_
          refine g_qb ?_
          refine g_qt ?_
          refine g_region ?_
          refine g_pure (p_move rfl) rfl ?_
          first | refine g_pure (p_addi rfl rfl (by omega)) rfl ?_ | refine g_pure (p_add rfl rfl) rfl ?_
          refine g_pure (p_assign rfl) rfl ?_
          refine g_nil ?_
          refine g_qn ?_
          exact g_next (i + 1) ⟨by rfl, by rfl, by rfl, by rfl, trivial⟩ .nil ⟨by omega, hnxt (by rintro e; injection e with e1 e2; contradiction)⟩ (by omega)
      · have hi2 : i = (tagN l t).toNat := by omega
        subst hi2
        refine g_exit ?_
        refine g_qt_exit ?_
        refine g_qn_exit ?_
        refine g_qb_exit ?_
        refine g_qt ?_
        refine g_seq ?_
        refine g_region ?_
        refine g_pure (p_assign rfl) rfl ?_
        refine g_pure (p_assign rfl) rfl ?_
        refine g_nil ?_
        refine g_qt ?_
        refine g_ret ?_
        exact g_post (Ho := []) (rs := [.tmp 6, .tmp 7]) rfl (.tmp rfl (.tmp rfl .nil)) ⟨by rw [hpF, find_none hno]; rfl, rfl⟩ (by repeat' (first | exact Cover.nil | exact Take.here | apply Cover.cons | apply Take.there))
end Go.Proofs.YtkbofpcnhjopaaaDoor
