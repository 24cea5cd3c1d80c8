/- Chapter 05: ValueTyped, ValueTypes. Conditions: what the library's variables hold (LibK). -/
import Derived.Test.YtkbofpcnhjopaaaDoorH7
namespace Go.Proofs.YtkbofpcnhjopaaaDoor
set_option maxRecDepth 8000
set_option linter.unusedVariables false
set_option linter.unusedSimpArgs false
set_option linter.unusedSectionVars false
open Go Go.Z Go.Z.Val

theorem applyn_ok {ρ : Nat → Obj → Prop} (op : Int) {aa : Option Addr} {ac k : Nat} {args : List Int} (hk : k = args.length) (ha : RSl ρ 1 aa k (args.map encI)) (hlen : k ≤ 9223372036854775806) :
    Con Tryd.prog ρ 20 #[.int .i64 op, .slice aa k ac] [] (fun v H => v = .tuple #[.int .i64 (applyF op args).1, .int .i64 (applyF op args).2] ∧ H = []) := by
  subst hk; exact apply_ok op ha hlen
theorem resultn_ok {ρ : Nat → Obj → Prop} (op : Int) {aa : Option Addr} {ac k : Nat} {args : List Int} (hk : k = args.length) (ha : RSl ρ 1 aa k (args.map encI)) (hlen : k ≤ 9223372036854775806) :
    Con Tryd.prog ρ 18 #[.int .i64 op, .slice aa k ac] [] (fun v H => v = .tuple #[.int .i64 (resultF op args).1, .int .i64 (resultF op args).2] ∧ H = []) := by
  subst hk; exact result_ok op ha hlen
theorem rsl_pre2 {ρ : Nat → Obj → Prop} {b n : Nat} {x y : Int} {T : TypeId} {fz : Nat × Nat} (h : ρ b (.cells [.int .i64 x, .int .i64 y].toArray T fz)) (hn : n = 1 ∨ n = 2) : RSl ρ 1 (some ⟨b, 0, none⟩) n (([x, y].take n).map encI) := by
  rcases hn with rfl | rfl
  · exact RSl.of_blk (k := 1) (size := 1) h (by simp)
  · exact RSl.of_blk (k := 2) (size := 1) h (by simp)

theorem res_i64 (op : Int) (ts : List Int) : I64 (resultF op ts).1 := by
  unfold resultF
  (repeat' split) <;> exact ⟨by decide, by decide⟩

set_option maxHeartbeats 1600000 in
theorem vtyped_ok {ρ : Nat → Obj → Prop} (hk : LibK ρ) (op t u x y : Int) (ht : I64 t) (hu : I64 u) :
    Con Tryd.prog ρ 7 #[.int .i64 op, .int .i64 t, .int .i64 u, .int .i64 x, .int .i64 y] [] (fun v _ => v = .bool true) := by
  refine con_intro Tryd.func7 Tryd.call7 rfl Tryd.ntmps7 rfl (L := [(0, _), (1, _), (2, _), (3, _), (4, _)]) rfl fun w hh => ?_
  refine g_seq ?_
  refine g_region ?_
  refine g_pure (p_assign rfl) rfl ?_
  refine g_nil ?_
  refine g_qt ?_
  refine g_seq ?_
  refine g_region ?_
  refine g_call (Hin := []) (Hr := ?hr1) (R := ?rr1) rfl rfl rfl ?hin1 ?hc1 ?hk1
  case hin1 => repeat' (first | exact Cover.nil | exact Take.here | apply Cover.cons | apply Take.there)
  case hc1 => intro ρ' hρ hR; exact light_ok
  rintro _ _ ⟨b1, b3, rfl, rfl⟩
  refine g_pure (p_assign rfl) rfl ?_
  refine g_nil ?_
  refine g_qt ?_
  refine g_seq ?_
  refine g_seq ?_
  refine g_region ?_
  refine g_pure (p_move rfl) rfl ?_
  refine g_pure (p_move rfl) rfl ?_
  refine g_pure (p_move rfl) rfl ?_
  refine g_call (Hin := []) (Hr := ?hr2) (R := ?rr2) rfl rfl rfl ?hin2 ?hc2 ?hk2
  case hin2 => repeat' (first | exact Cover.nil | exact Take.here | apply Cover.cons | apply Take.there)
  case hc2 => intro ρ' hρ hR; exact vhas_ok (l := [lightE b1]) (light_en (Take.ro (A := Blk b3 (.cells [.string lightT, .slice (some ⟨b1, 0, none⟩) 2 2].toArray 54 (0, 0))) (by repeat' (first | exact Take.here | apply Take.there)) hR).blk (Take.ro (A := Blk b1 (.cells [.string redT, .string greenT].toArray 9 (0, 0))) (by repeat' (first | exact Take.here | apply Take.there)) hR).blk) one_max t x ht
  rintro _ _ ⟨rfl, rfl⟩
  refine g_pure (p_not rfl) rfl ?_
  refine g_pure (p_move rfl) rfl ?_
  refine g_splitnd rfl rfl (fun g1 => ?_) (fun g1 => ?_)
  · refine g_no rfl rfl rfl rfl ?_
    refine g_no rfl rfl rfl rfl ?_
    refine g_no rfl rfl rfl rfl ?_
    refine g_no rfl rfl rfl rfl ?_
    refine g_no rfl rfl rfl rfl ?_
    first | refine g_pure (p_pickt rfl rfl) rfl ?_ | refine g_pure (p_pickf rfl rfl) rfl ?_
    refine g_nil ?_
    refine g_qt ?_
    refine g_ift rfl ?_
    refine g_seq ?_
    refine g_region ?_
    refine g_call (Hin := []) (Hr := ?hr3) (R := ?rr3) rfl rfl rfl ?hin3 ?hc3 ?hk3
    case hin3 => repeat' (first | exact Cover.nil | exact Take.here | apply Cover.cons | apply Take.there)
    case hc3 => intro ρ' hρ hR; exact vawake_ok (hk.mono hρ)
    rintro _ _ ⟨rfl, rfl⟩
    refine g_pure (p_assign rfl) rfl ?_
    refine g_nil ?_
    refine g_qt ?_
    refine g_ret ?_
    refine g_qt_ret ?_
    exact g_post (Ho := []) (rs := [.tmp 10]) rfl (.tmp rfl .nil) rfl .nil
  · refine g_yes rfl rfl ?_
    refine g_pure (p_move rfl) rfl ?_
    refine g_yes rfl rfl ?_
    refine g_pure (p_move rfl) rfl ?_
    refine g_yes rfl rfl ?_
    refine g_pure (p_move rfl) rfl ?_
    refine g_yes rfl rfl ?_
    refine g_call (Hin := []) (Hr := ?hr4) (R := ?rr4) rfl rfl rfl ?hin4 ?hc4 ?hk4
    case hin4 => repeat' (first | exact Cover.nil | exact Take.here | apply Cover.cons | apply Take.there)
    case hc4 => intro ρ' hρ hR; exact vhas_ok (l := [lightE b1]) (light_en (Take.ro (A := Blk b3 (.cells [.string lightT, .slice (some ⟨b1, 0, none⟩) 2 2].toArray 54 (0, 0))) (by repeat' (first | exact Take.here | apply Take.there)) hR).blk (Take.ro (A := Blk b1 (.cells [.string redT, .string greenT].toArray 9 (0, 0))) (by repeat' (first | exact Take.here | apply Take.there)) hR).blk) one_max u y hu
    rintro _ _ ⟨rfl, rfl⟩
    refine g_yes rfl rfl ?_
    refine g_pure (p_not rfl) rfl ?_
    first | refine g_pure (p_pickt rfl rfl) rfl ?_ | refine g_pure (p_pickf rfl rfl) rfl ?_
    refine g_nil ?_
    refine g_qt ?_
    refine g_ifnd rfl (fun g2 => ?_) (fun g2 => ?_)
    · refine g_seq ?_
      refine g_region ?_
      refine g_call (Hin := []) (Hr := ?hr5) (R := ?rr5) rfl rfl rfl ?hin5 ?hc5 ?hk5
      case hin5 => repeat' (first | exact Cover.nil | exact Take.here | apply Cover.cons | apply Take.there)
      case hc5 => intro ρ' hρ hR; exact vawake_ok (hk.mono hρ)
      rintro _ _ ⟨rfl, rfl⟩
      refine g_pure (p_assign rfl) rfl ?_
      refine g_nil ?_
      refine g_qt ?_
      refine g_ret ?_
      refine g_qt_ret ?_
      exact g_post (Ho := []) (rs := [.tmp 10]) rfl (.tmp rfl .nil) rfl .nil
    · refine g_skip ?_
      refine g_qt ?_
      refine g_seq ?_
      refine g_region ?_
      refine g_pure (p_move rfl) rfl ?_
      refine g_pure (p_move rfl) rfl ?_
      refine g_eff (e_bs (xs := [.tmp 32, .tmp 33]) rfl rfl rfl (by rfl) (by rfl) rfl (by rfl)) rfl (fun _ _ => ?_)
      rintro ⟨b34, rfl, rfl⟩
      refine g_pure (p_move rfl) rfl ?_
      refine g_pure (p_move rfl) rfl ?_
      refine g_eff (e_bs (xs := [.tmp 35, .tmp 36]) rfl rfl rfl (by rfl) (by rfl) rfl (by rfl)) rfl (fun _ _ => ?_)
      rintro ⟨b37, rfl, rfl⟩
      refine g_pure (p_assign rfl) rfl ?_
      refine g_pure (p_assign rfl) rfl ?_
      refine g_nil ?_
      refine g_qt ?_
      refine g_seq ?_
      refine g_seq ?_
      refine g_join (fun b : Bool => [(0, .int .i64 op), (11, .slice (some ⟨b3, 0, none⟩) 1 1), (12, .slice (some ⟨b34, 0, none⟩) 2 2), (13, .slice (some ⟨b37, 0, none⟩) 2 2), (43, .bool b)])
        (fun _ => [Blk b37 (.cells [.int .i64 x, .int .i64 y].toArray 3 (0, 0)), Blk b34 (.cells [.int .i64 t, .int .i64 u].toArray 3 (0, 0)), Blk b3 (.cells [.string lightT, .slice (some ⟨b1, 0, none⟩) 2 2].toArray 54 (0, 0)), Blk b1 (.cells [.string redT, .string greenT].toArray 9 (0, 0))]) (fun b => b = decide (op = 1 ∨ op = 2)) ?_ ?_
      · refine g_region ?_
        refine g_pure (p_move rfl) rfl ?_
        refine g_pure (p_eql rfl rfl) rfl ?_
        refine g_pure (p_move rfl) rfl ?_
        refine g_splitd rfl rfl (fun q1 => ?_) (fun q1 => ?_)
        · refine g_no rfl rfl rfl rfl ?_
          refine g_no rfl rfl rfl rfl ?_
          first | refine g_pure (p_pickt rfl rfl) rfl ?_ | refine g_pure (p_pickf rfl rfl) rfl ?_
          refine g_nil ?_
          refine g_qn ?_
          exact g_joined true (by (repeat (first | exact trivial | refine ⟨by rfl, ?_⟩)); done) (by repeat' (first | exact Cover.nil | exact Take.here | apply Cover.cons | apply Take.there)) (decide_eq_true (.inl q1)).symm
        · refine g_yes rfl rfl ?_
          refine g_pure (p_move rfl) rfl ?_
          refine g_yes rfl rfl ?_
          refine g_pure (p_eql rfl rfl) rfl ?_
          first | refine g_pure (p_pickt rfl rfl) rfl ?_ | refine g_pure (p_pickf rfl rfl) rfl ?_
          refine g_nil ?_
          refine g_qn ?_
          exact g_joined (decide (op = 2)) (by (repeat (first | exact trivial | refine ⟨by rfl, ?_⟩)); done) (by repeat' (first | exact Cover.nil | exact Take.here | apply Cover.cons | apply Take.there)) (by rw [decide_eq_decide]; omega)
      rintro b hb
      refine g_qt ?_
      refine g_join (fun n : Nat => [(0, .int .i64 op), (11, .slice (some ⟨b3, 0, none⟩) 1 1), (12, .slice (some ⟨b34, 0, none⟩) n 2), (13, .slice (some ⟨b37, 0, none⟩) n 2)])
        (fun _ => [Blk b37 (.cells [.int .i64 x, .int .i64 y].toArray 3 (0, 0)), Blk b34 (.cells [.int .i64 t, .int .i64 u].toArray 3 (0, 0)), Blk b3 (.cells [.string lightT, .slice (some ⟨b1, 0, none⟩) 2 2].toArray 54 (0, 0)), Blk b1 (.cells [.string redT, .string greenT].toArray 9 (0, 0))]) (fun n => n = if op = 1 ∨ op = 2 then 1 else 2) ?_ ?_
      · refine g_if rfl (fun q1 => ?_) (fun q1 => ?_)
        · have q2 := of_decide_eq_true (hb.symm.trans q1)
          refine m_begin0 (.fl 0 0 (.fl 1 0 (.fl 2 0 (.fl 3 0 (.fl 4 0 (.fl 5 0 .done)))))) (by kernel_rfl) (by kernel_rfl) ?_
          refine m_float0 rfl (fun _ _ => p_move rfl) rfl ?_
          refine m_float0 rfl (fun _ _ => p_sliceh rfl rfl (by omega)) rfl ?_
          refine m_float0 rfl (fun _ _ => p_move rfl) rfl ?_
          refine m_float0 rfl (fun _ _ => p_sliceh rfl rfl (by omega)) rfl ?_
          refine m_float0 rfl (fun _ _ => p_assign rfl) rfl ?_
          refine m_float0 rfl (fun _ _ => p_assign rfl) rfl ?_
          refine m_nil ?_
          refine g_qn ?_
          exact g_joined 1 (by (repeat (first | exact trivial | refine ⟨by rfl, ?_⟩)); done) (by repeat' (first | exact Cover.nil | exact Take.here | apply Cover.cons | apply Take.there)) (by rw [if_pos q2])
        · have q2 := of_decide_eq_false (hb.symm.trans q1)
          refine g_skip ?_
          refine g_qn ?_
          exact g_joined 2 (by (repeat (first | exact trivial | refine ⟨by rfl, ?_⟩)); done) (by repeat' (first | exact Cover.nil | exact Take.here | apply Cover.cons | apply Take.there)) (by rw [if_neg q2])
      rintro n hn
      have hn12 : n = 1 ∨ n = 2 := by split at hn <;> omega
      obtain ⟨k1, k2⟩ := typed_law (l := [lightE b1]) (op := op) hn g1 g2
      have hri := res_i64 op ([t, u].take n)
      refine g_qt ?_
      refine g_seq ?_
      refine g_region ?_
      refine g_pure (p_move rfl) rfl ?_
      refine g_pure (p_move rfl) rfl ?_
      refine g_call (Hin := []) (Hr := ?hr6) (R := ?rr6) rfl rfl rfl ?hin6 ?hc6 ?hk6
      case hin6 => repeat' (first | exact Cover.nil | exact Take.here | apply Cover.cons | apply Take.there)
      case hc6 => intro ρ' hρ hR; exact resultn_ok op (args := [t, u].take n) (by rw [List.length_take]; have : [t, u].length = 2 := rfl; omega) (rsl_pre2 (Take.ro (A := Blk b34 (.cells [.int .i64 t, .int .i64 u].toArray 3 (0, 0))) (by repeat' (first | exact Take.here | apply Take.there)) hR).blk hn12) (by omega)
      rintro _ _ ⟨rfl, rfl⟩
      generalize resultF op ([t, u].take n) = r at *
      obtain ⟨rx, re⟩ := r
      dsimp only at k1 k2 hri ⊢
      refine g_pure (p_move rfl) rfl ?_
      refine g_pure (p_extract rfl rfl) rfl ?_
      refine g_pure (p_extract rfl rfl) rfl ?_
      refine g_pure (p_assign rfl) rfl ?_
      refine g_pure (p_assign rfl) rfl ?_
      refine g_nil ?_
      refine g_qt ?_
      refine g_seq ?_
      refine g_region ?_
      refine g_pure (p_move rfl) rfl ?_
      refine g_pure (p_move rfl) rfl ?_
      refine g_call (Hin := []) (Hr := ?hr7) (R := ?rr7) rfl rfl rfl ?hin7 ?hc7 ?hk7
      case hin7 => repeat' (first | exact Cover.nil | exact Take.here | apply Cover.cons | apply Take.there)
      case hc7 => intro ρ' hρ hR; exact applyn_ok op (args := [x, y].take n) (by rw [List.length_take]; have : [x, y].length = 2 := rfl; omega) (rsl_pre2 (Take.ro (A := Blk b37 (.cells [.int .i64 x, .int .i64 y].toArray 3 (0, 0))) (by repeat' (first | exact Take.here | apply Take.there)) hR).blk hn12) (by omega)
      rintro _ _ ⟨rfl, rfl⟩
      generalize applyF op ([x, y].take n) = r at *
      obtain ⟨av, af⟩ := r
      dsimp only at k1 k2 ⊢
      refine g_pure (p_move rfl) rfl ?_
      refine g_pure (p_extract rfl rfl) rfl ?_
      refine g_pure (p_extract rfl rfl) rfl ?_
      refine g_pure (p_assign rfl) rfl ?_
      refine g_pure (p_assign rfl) rfl ?_
      refine g_nil ?_
      refine g_qt ?_
      refine g_seq ?_
      refine g_seq ?_
      refine g_region ?_
      refine g_pure (p_move rfl) rfl ?_
      refine g_pure (p_eql rfl rfl) rfl ?_
      refine g_nil ?_
      refine g_qt ?_
      refine g_ifd rfl (fun h9 => ?_) (fun h9 => ?_)
      · obtain ⟨j1, j2⟩ := k1 h9
        refine g_seq ?_
        refine g_region ?_
        refine g_pure (p_move rfl) rfl ?_
        refine g_pure (p_eqlT rfl rfl j1) rfl ?_
        refine g_pure (p_move rfl) rfl ?_
        refine g_yes rfl rfl ?_
        refine g_pure (p_move rfl) rfl ?_
        refine g_yes rfl rfl ?_
        refine g_pure (p_move rfl) rfl ?_
        refine g_yes rfl rfl ?_
        refine g_pure (p_move rfl) rfl ?_
        refine g_yes rfl rfl ?_
        refine g_call (Hin := []) (Hr := ?hr8) (R := ?rr8) rfl rfl rfl ?hin8 ?hc8 ?hk8
        case hin8 => repeat' (first | exact Cover.nil | exact Take.here | apply Cover.cons | apply Take.there)
        case hc8 => intro ρ' hρ hR; exact (vhas_ok (l := [lightE b1]) (light_en (Take.ro (A := Blk b3 (.cells [.string lightT, .slice (some ⟨b1, 0, none⟩) 2 2].toArray 54 (0, 0))) (by repeat' (first | exact Take.here | apply Take.there)) hR).blk (Take.ro (A := Blk b1 (.cells [.string redT, .string greenT].toArray 9 (0, 0))) (by repeat' (first | exact Take.here | apply Take.there)) hR).blk) one_max rx av hri).mono (fun v H' h => by rw [decide_eq_true j2] at h; exact h)
        rintro _ _ ⟨rfl, rfl⟩
        first | refine g_pure (p_pickt rfl rfl) rfl ?_ | refine g_pure (p_pickf rfl rfl) rfl ?_
        refine g_pure (p_move rfl) rfl ?_
        refine g_yes rfl rfl ?_
        refine g_call (Hin := []) (Hr := ?hr9) (R := ?rr9) rfl rfl rfl ?hin9 ?hc9 ?hk9
        case hin9 => repeat' (first | exact Cover.nil | exact Take.here | apply Cover.cons | apply Take.there)
        case hc9 => intro ρ' hρ hR; exact vawake_ok (hk.mono hρ)
        rintro _ _ ⟨rfl, rfl⟩
        first | refine g_pure (p_pickt rfl rfl) rfl ?_ | refine g_pure (p_pickf rfl rfl) rfl ?_
        refine g_pure (p_assign rfl) rfl ?_
        refine g_nil ?_
        refine g_qt ?_
        refine g_ret ?_
        refine g_qt_ret ?_
        exact g_post (Ho := []) (rs := [.tmp 10]) rfl (.tmp rfl .nil) rfl .nil
      · have k2 := k2 h9
        refine g_skip ?_
        refine g_qt ?_
        refine g_seq ?_
        refine g_region ?_
        refine g_pure (p_move rfl) rfl ?_
        refine g_pure (p_neq rfl rfl) rfl ?_
        refine g_pure (p_move rfl) rfl ?_
        refine g_splitnd rfl rfl (fun h1 => ?_) (fun h1 => ?_)
        · refine g_no rfl rfl rfl rfl ?_
          refine g_no rfl rfl rfl rfl ?_
          first | refine g_pure (p_pickt rfl rfl) rfl ?_ | refine g_pure (p_pickf rfl rfl) rfl ?_
          refine g_pure (p_move rfl) rfl ?_
          refine g_yes rfl rfl ?_
          refine g_call (Hin := []) (Hr := ?hr10) (R := ?rr10) rfl rfl rfl ?hin10 ?hc10 ?hk10
          case hin10 => repeat' (first | exact Cover.nil | exact Take.here | apply Cover.cons | apply Take.there)
          case hc10 => intro ρ' hρ hR; exact vawake_ok (hk.mono hρ)
          rintro _ _ ⟨rfl, rfl⟩
          first | refine g_pure (p_pickt rfl rfl) rfl ?_ | refine g_pure (p_pickf rfl rfl) rfl ?_
          refine g_pure (p_assign rfl) rfl ?_
          refine g_nil ?_
          refine g_qt ?_
          refine g_ret ?_
          first | exact g_post (Ho := []) (rs := [.tmp 10]) rfl (.tmp rfl .nil) rfl .nil | (exfalso; omega)
        · refine g_yes rfl rfl ?_
          refine g_pure (p_move rfl) rfl ?_
          refine g_yes rfl rfl ?_
          refine g_pure (p_eql rfl rfl) rfl ?_
          first | refine g_pure (p_pickt rfl rfl) rfl ?_ | refine g_pure (p_pickf rfl rfl) rfl ?_
          refine g_pure (p_move rfl) rfl ?_
          refine g_splitd rfl rfl (fun h3 => ?_) (fun h3 => ?_)
          · refine g_yes rfl rfl ?_
            refine g_call (Hin := []) (Hr := ?hr11) (R := ?rr11) rfl rfl rfl ?hin11 ?hc11 ?hk11
            case hin11 => repeat' (first | exact Cover.nil | exact Take.here | apply Cover.cons | apply Take.there)
            case hc11 => intro ρ' hρ hR; exact vawake_ok (hk.mono hρ)
            rintro _ _ ⟨rfl, rfl⟩
            first | refine g_pure (p_pickt rfl rfl) rfl ?_ | refine g_pure (p_pickf rfl rfl) rfl ?_
            refine g_pure (p_assign rfl) rfl ?_
            refine g_nil ?_
            refine g_qt ?_
            refine g_ret ?_
            first | exact g_post (Ho := []) (rs := [.tmp 10]) rfl (.tmp rfl .nil) rfl .nil | (exfalso; omega)
          · refine g_no rfl rfl rfl rfl ?_
            first | refine g_pure (p_pickt rfl rfl) rfl ?_ | refine g_pure (p_pickf rfl rfl) rfl ?_
            refine g_pure (p_assign rfl) rfl ?_
            refine g_nil ?_
            refine g_qt ?_
            refine g_ret ?_
            first | exact g_post (Ho := []) (rs := [.tmp 10]) rfl (.tmp rfl .nil) rfl .nil | (exfalso; omega)

theorem vhuge_ok {ρ : Nat → Obj → Prop} {a : Option Addr} {c : Nat} {l : List En} (h : EnR ρ a l) (hl : l.length ≤ 9223372036854775800) : Con Tryd.prog ρ 11 #[.slice a l.length c] [] (fun v H => (∃ b, v = .bool b) ∧ H = []) := by
  obtain ⟨⟨_, bl, ol, kl, Tl, fl, hkk⟩, he⟩ := h
  have eM : maxLen = 9223372036854775807 := rfl
  refine con_intro Tryd.func11 Tryd.call11 rfl Tryd.ntmps11 rfl (L := [(0, _)]) rfl fun w hh => ?_
  refine g_seq ?_
  refine g_region ?_
  refine g_pure (p_assign rfl) rfl ?_
  refine g_nil ?_
  refine g_qt ?_
  refine g_seq ?_
  refine g_seq ?_
  refine g_region ?_
  refine g_pure (p_move rfl) rfl ?_
  refine g_pure (p_len (by rfl) rfl) rfl ?_
  refine g_pure (p_gtr rfl rfl) rfl ?_
  refine g_nil ?_
  refine g_qt ?_
  refine g_ifd rfl (fun h1 => ?_) (fun h1 => ?_)
  · refine g_seq ?_
    refine g_region ?_
    refine g_pure (p_assign rfl) rfl ?_
    refine g_nil ?_
    refine g_qt ?_
    refine g_ret ?_
    refine g_qt_ret ?_
    exact g_post (Ho := []) (rs := [.tmp 2]) rfl (.tmp rfl .nil) ⟨⟨_, rfl⟩, rfl⟩ (by repeat' (first | exact Cover.nil | exact Take.here | apply Cover.cons | apply Take.there))
  · refine g_skip ?_
    refine g_qt ?_
    refine g_seq ?_
    refine g_seq ?_
    refine g_region ?_
    refine g_pure (p_assign rfl) rfl ?_
    refine g_nil ?_
    refine g_qt ?_
    refine g_block ?_
    refine g_loop (fun i : Nat => [(0, .slice a l.length c), (3, .int .i64 i)]) (fun _ => []) (fun i => i ≤ l.length) (fun i => l.length - i) 0 (Nat.zero_le _) (by (repeat (first | exact trivial | refine ⟨by rfl, ?_⟩)); done) .nil fun i hi => ?_
    refine g_seq ?_
    refine g_seq ?_
    refine g_region ?_
    refine g_pure (p_move rfl) rfl ?_
    refine g_pure (p_move rfl) rfl ?_
    refine g_pure (p_len (by rfl) rfl) rfl ?_
    refine g_pure (p_lss rfl rfl) rfl ?_
    refine g_nil ?_
    refine g_qt ?_
    refine g_ifd rfl (fun h2 => ?_) (fun h2 => ?_)
    · have hk' : i < l.length := by omega
      have heo := he _ (List.getElem_mem hk')
      obtain ⟨l1, l2, l3⟩ := hkk (by omega)
      obtain ⟨_, x0, x1⟩ := en_at l3 hk'
      generalize l[i] = e at *
      obtain ⟨e1, e2, e3, e4⟩ := e
      obtain ⟨⟨_, bm, om, km, Tm, fm, hm⟩, hs1, hs2, hs3⟩ := heo
      dsimp only at x0 x1 hm hs3
      refine g_skip ?_
      refine g_qt ?_
      refine g_seq ?_
      refine g_block ?_
      refine g_seq ?_
      refine g_seq ?_
      refine g_region ?_
      refine g_pure (p_move rfl) rfl ?_
      refine g_pure (p_move rfl) rfl ?_
      refine g_pure (p_indexAddr rfl rfl (by omega) (fun _ => l1)) rfl ?_
      refine g_pure (p_fieldAddr rfl) rfl ?_
      refine g_pure (p_load (by rfl) rfl (Has.ro l2) x1) rfl ?_
      refine g_pure (p_len (by rfl) rfl) rfl ?_
      refine g_pure (p_gtr rfl rfl) rfl ?_
      refine g_pure (p_move rfl) rfl ?_
      refine g_splitd rfl rfl (fun g1 => ?_) (fun g1 => ?_)
      · refine g_no rfl rfl rfl rfl ?_
        refine g_no rfl rfl rfl rfl ?_
        refine g_no rfl rfl rfl rfl ?_
        refine g_no rfl rfl rfl rfl ?_
        refine g_no rfl rfl rfl rfl ?_
        refine g_no rfl rfl rfl rfl ?_
        refine g_no rfl rfl rfl rfl ?_
        first | refine g_pure (p_pickt rfl rfl) rfl ?_ | refine g_pure (p_pickf rfl rfl) rfl ?_
        refine g_nil ?_
        refine g_qt ?_
        refine g_ift rfl ?_
        refine g_seq ?_
        refine g_region ?_
        refine g_pure (p_assign rfl) rfl ?_
        refine g_nil ?_
        refine g_qt ?_
        refine g_ret ?_
        refine g_qt_ret ?_
        refine g_qb_ret ?_
        refine g_qt_ret ?_
        refine g_qn_ret ?_
        refine g_qb_ret ?_
        refine g_qt_ret ?_
        exact g_post (Ho := []) (rs := [.tmp 2]) rfl (.tmp rfl .nil) ⟨⟨_, rfl⟩, rfl⟩ (by repeat' (first | exact Cover.nil | exact Take.here | apply Cover.cons | apply Take.there))
      · refine g_yes rfl rfl ?_
        refine g_pure (p_move rfl) rfl ?_
        refine g_yes rfl rfl ?_
        refine g_pure (p_move rfl) rfl ?_
        refine g_yes rfl rfl ?_
        refine g_pure (p_indexAddr rfl rfl (by omega) (fun _ => l1)) rfl ?_
        refine g_yes rfl rfl ?_
        refine g_pure (p_fieldAddr rfl) rfl ?_
        refine g_yes rfl rfl ?_
        refine g_pure (p_load (by rfl) rfl (Has.ro l2) x0) rfl ?_
        refine g_yes rfl rfl ?_
        refine g_pure (p_lens (by rfl) rfl) rfl ?_
        refine g_yes rfl rfl ?_
        refine g_pure (p_gtr rfl rfl) rfl ?_
        first | refine g_pure (p_pickt rfl rfl) rfl ?_ | refine g_pure (p_pickf rfl rfl) rfl ?_
        refine g_nil ?_
        refine g_qt ?_
        refine g_ifd rfl (fun g2 => ?_) (fun g2 => ?_)
        · refine g_seq ?_
          refine g_region ?_
          refine g_pure (p_assign rfl) rfl ?_
          refine g_nil ?_
          refine g_qt ?_
          refine g_ret ?_
          refine g_qt_ret ?_
          refine g_qb_ret ?_
          refine g_qt_ret ?_
          refine g_qn_ret ?_
          refine g_qb_ret ?_
          refine g_qt_ret ?_
          exact g_post (Ho := []) (rs := [.tmp 2]) rfl (.tmp rfl .nil) ⟨⟨_, rfl⟩, rfl⟩ (by repeat' (first | exact Cover.nil | exact Take.here | apply Cover.cons | apply Take.there))
        · refine g_skip ?_
          refine g_qt ?_
          refine g_seq ?_
          refine g_region ?_
          refine g_pure (p_assign rfl) rfl ?_
          refine g_nil ?_
          refine g_qt ?_
          refine g_block ?_
          refine g_loop (fun j : Nat => [(0, .slice a l.length c), (3, .int .i64 i), (4, .int .i64 j)]) (fun _ => []) (fun j => j ≤ e4.length) (fun j => e4.length - j) 0 (Nat.zero_le _) (by (repeat (first | exact trivial | refine ⟨by rfl, ?_⟩)); done) .nil fun j hj => ?_
          refine g_seq ?_
          refine g_seq ?_
          refine g_region ?_
          refine g_pure (p_move rfl) rfl ?_
          refine g_pure (p_move rfl) rfl ?_
          refine g_pure (p_move rfl) rfl ?_
          refine g_pure (p_indexAddr rfl rfl (by omega) (fun _ => l1)) rfl ?_
          refine g_pure (p_fieldAddr rfl) rfl ?_
          refine g_pure (p_load (by rfl) rfl (Has.ro l2) x1) rfl ?_
          refine g_pure (p_len (by rfl) rfl) rfl ?_
          refine g_pure (p_lss rfl rfl) rfl ?_
          refine g_nil ?_
          refine g_qt ?_
          refine g_ifd rfl (fun h3 => ?_) (fun h3 => ?_)
          · have hj' : j < e4.length := by omega
            obtain ⟨m1, m2, m3⟩ := hm (by omega)
            have y0 : km[om + (j : Int).toNat * 1]? = some (.string e4[j]) := by
              rw [Nat.mul_one]
              refine m3 _ _ ?_
              show (e4.map encTx)[j]? = _
              rw [List.getElem?_map, List.getElem?_eq_getElem hj']; rfl
            refine g_skip ?_
            refine g_qt ?_
            refine g_seq ?_
            refine g_block ?_
            refine g_seq ?_
            refine g_region ?_
            refine g_pure (p_move rfl) rfl ?_
            refine g_pure (p_move rfl) rfl ?_
            refine g_pure (p_indexAddr rfl rfl (by omega) (fun _ => l1)) rfl ?_
            refine g_pure (p_fieldAddr rfl) rfl ?_
            refine g_pure (p_load (by rfl) rfl (Has.ro l2) x1) rfl ?_
            refine g_pure (p_move rfl) rfl ?_
            refine g_pure (p_indexAddr rfl rfl (by omega) (fun _ => m1)) rfl ?_
            refine g_pure (p_load (by rfl) rfl (Has.ro m2) y0) rfl ?_
            refine g_pure (p_lens (by rfl) rfl) rfl ?_
            refine g_pure (p_gtr rfl rfl) rfl ?_
            refine g_nil ?_
            refine g_qt ?_
            refine g_ifd rfl (fun h4 => ?_) (fun h4 => ?_)
            · refine g_seq ?_
              refine g_region ?_
              refine g_pure (p_assign rfl) rfl ?_
              refine g_nil ?_
              refine g_qt ?_
              refine g_ret ?_
              refine g_qb_ret ?_
              refine g_qt_ret ?_
              refine g_qn_ret ?_
              refine g_qb_ret ?_
              refine g_qb_ret ?_
              refine g_qt_ret ?_
              refine g_qn_ret ?_
              refine g_qb_ret ?_
              refine g_qt_ret ?_
              exact g_post (Ho := []) (rs := [.tmp 2]) rfl (.tmp rfl .nil) ⟨⟨_, rfl⟩, rfl⟩ (by repeat' (first | exact Cover.nil | exact Take.here | apply Cover.cons | apply Take.there))
            · refine g_skip ?_
              refine g_qb ?_
              refine g_qt ?_
              refine g_region ?_
              refine g_pure (p_move rfl) rfl ?_
              first | refine g_pure (p_addi rfl rfl (by omega)) rfl ?_ | refine g_pure (p_add rfl rfl) rfl ?_
              refine g_pure (p_assign rfl) rfl ?_
              refine g_nil ?_
              refine g_qn ?_
              exact g_next (j + 1) (by (repeat (first | exact trivial | refine ⟨by rfl, ?_⟩)); done) .nil (by omega) (by omega)
          · refine g_exit ?_
            refine g_qt_exit ?_
            refine g_qn_exit ?_
            refine g_qb_exit ?_
            refine g_qb ?_
            refine g_qt ?_
            refine g_region ?_
            refine g_pure (p_move rfl) rfl ?_
            first | refine g_pure (p_addi rfl rfl (by omega)) rfl ?_ | refine g_pure (p_add rfl rfl) rfl ?_
            refine g_pure (p_assign rfl) rfl ?_
            refine g_nil ?_
            refine g_qn ?_
            exact g_next (i + 1) (by (repeat (first | exact trivial | refine ⟨by rfl, ?_⟩)); done) .nil (by omega) (by omega)
    · refine g_exit ?_
      refine g_qt_exit ?_
      refine g_qn_exit ?_
      refine g_qb_exit ?_
      refine g_qt ?_
      refine g_seq ?_
      refine g_region ?_
      refine g_pure (p_assign rfl) rfl ?_
      refine g_nil ?_
      refine g_qt ?_
      refine g_ret ?_
      exact g_post (Ho := []) (rs := [.tmp 2]) rfl (.tmp rfl .nil) ⟨⟨_, rfl⟩, rfl⟩ (by repeat' (first | exact Cover.nil | exact Take.here | apply Cover.cons | apply Take.there))

theorem name_r {ρ : Nat → Obj → Prop} {a : Option Addr} {c : Nat} {l : List En} (h : EnR ρ a l) (hl : l.length ≤ maxLen) {t : Int} (ht : I64 t) {nm : ByteArray} {ok : Bool} (e : nameF l t = (nm, ok)) : Con Tryd.prog ρ 36 #[.slice a l.length c, .int .i64 t] [] (fun v H => v = .tuple #[.string nm, .bool ok] ∧ H = []) := by
  have := name_ok (ρ := ρ) (c := c) h hl t ht
  rwa [e] at this
theorem dname_r {ρ : Nat → Obj → Prop} {a : Option Addr} {c : Nat} {l : List En} (h : EnR ρ a l) (hl : l.length ≤ maxLen) {t : Int} (ht : I64 t) {nm : ByteArray} {ok : Bool} (e : nameF l t = (nm, ok)) : Con Tryd.prog ρ 37 #[.slice a l.length c, .int .i64 t] [] (fun v H => v = .tuple #[.string nm, .bool ok] ∧ H = []) := by
  have := dname_ok (ρ := ρ) (c := c) h hl t ht
  rwa [e] at this
theorem type_r {ρ : Nat → Obj → Prop} {a : Option Addr} {c : Nat} {l : List En} (h : EnR ρ a l) (hl : l.length ≤ 9223372036854775800) {s : ByteArray} {x : Int} {ok : Bool} (e : typeF l s = (x, ok)) : Con Tryd.prog ρ 38 #[.slice a l.length c, .string s] [] (fun v H => v = .tuple #[.int .i64 x, .bool ok] ∧ H = []) := by
  have := type_ok (ρ := ρ) (c := c) h hl s
  rwa [e] at this

set_option maxHeartbeats 1600000 in
theorem vtypes_ok {ρ : Nat → Obj → Prop} (hk : LibK ρ) {a : Option Addr} {c : Nat} {l : List En} (h : EnR ρ a l) (hl : l.length ≤ 9223372036854775800) (t v : Int) (ht : I64 t) (s : ByteArray) :
    Con Tryd.prog ρ 10 #[.slice a l.length c, .int .i64 t, .int .i64 v, .string s] [] (fun v _ => v = .bool true) := by
  have hl' : l.length ≤ maxLen := Nat.le_trans hl (by decide)
  have hx : I64 (typeF l (nameF l t).1).1 := by
    by_cases hkn : known l t
    · obtain ⟨_, h2, _, h4⟩ := type_name hkn
      refine ⟨?_, by have := ht.2; omega⟩
      rw [nameF_known] at h2
      have := of_decide_eq_true h2
      unfold known at this
      omega
    · unfold typeF
      split
      · exact ⟨by decide, by decide⟩
      · split
        · exact ⟨by decide, by decide⟩
        · cases hf : l.findIdx? (fun e => decide (e.1 = (nameF l t).1)) with
          | none => exact ⟨by decide, by decide⟩
          | some i =>
            rw [List.findIdx?_eq_some_iff_getElem] at hf
            obtain ⟨hi, _⟩ := hf
            exact ⟨by dsimp only; omega, by dsimp only; omega⟩
  by_cases hkn : known l t
  · obtain ⟨k1, k2, k3, k4⟩ := type_name hkn
    have k0 : (nameF l t).2 = true := by rw [nameF_known]; exact decide_eq_true hkn
    obtain ⟨nm, hp⟩ : ∃ nm, nameF l t = (nm, true) := ⟨_, Prod.ext rfl k0⟩
    rw [hp] at k1 k2 k3 k4 hx
    obtain ⟨x, hq⟩ : ∃ x, typeF l nm = (x, true) := ⟨_, Prod.ext rfl k1⟩
    dsimp only at k2 k3 k4 hx
    rw [hq] at k2 k3 k4 hx
    have hr : nameF l x = (nm, true) := Prod.ext k3 k2
    dsimp only at hx k4
    refine con_intro Tryd.func10 Tryd.call10 rfl Tryd.ntmps10 rfl (L := [(0, _), (1, _), (2, _), (3, _)]) rfl fun w hh => ?_
    refine g_seq ?_
    refine g_region ?_
    refine g_pure (p_assign rfl) rfl ?_
    refine g_nil ?_
    refine g_qt ?_
    refine g_seq ?_
    refine g_seq ?_
    refine g_region ?_
    refine g_pure (p_move rfl) rfl ?_
    refine g_call (Hin := []) (Hr := ?hr12) (R := ?rr12) rfl rfl rfl ?hin12 ?hc12 ?hk12
    case hin12 => repeat' (first | exact Cover.nil | exact Take.here | apply Cover.cons | apply Take.there)
    case hc12 => intro ρ' hρ hR; exact vhuge_ok (h.mono hρ) hl
    rintro _ _ ⟨⟨b, rfl⟩, rfl⟩
    refine g_pure (p_move rfl) rfl ?_
    refine g_split rfl rfl (fun h1 => ?_) (fun h1 => ?_)
    · refine g_no rfl rfl rfl rfl ?_
      refine g_no rfl rfl rfl rfl ?_
      refine g_no rfl rfl rfl rfl ?_
      first | refine g_pure (p_pickt rfl rfl) rfl ?_ | refine g_pure (p_pickf rfl rfl) rfl ?_
      refine g_nil ?_
      refine g_qt ?_
      refine g_ift rfl ?_
      refine g_seq ?_
      refine g_region ?_
      refine g_call (Hin := []) (Hr := ?hr13) (R := ?rr13) rfl rfl rfl ?hin13 ?hc13 ?hk13
      case hin13 => repeat' (first | exact Cover.nil | exact Take.here | apply Cover.cons | apply Take.there)
      case hc13 => intro ρ' hρ hR; exact vawake_ok (hk.mono hρ)
      rintro _ _ ⟨rfl, rfl⟩
      refine g_pure (p_assign rfl) rfl ?_
      refine g_nil ?_
      refine g_qt ?_
      refine g_ret ?_
      refine g_qt_ret ?_
      first | exact g_post (Ho := []) (rs := [.tmp 8]) rfl (.tmp rfl .nil) rfl .nil | (exfalso; omega)
    · refine g_yes rfl rfl ?_
      refine g_pure (p_move rfl) rfl ?_
      refine g_yes rfl rfl ?_
      refine g_pure (p_lens (by rfl) rfl) rfl ?_
      refine g_yes rfl rfl ?_
      refine g_pure (p_gtr rfl rfl) rfl ?_
      first | refine g_pure (p_pickt rfl rfl) rfl ?_ | refine g_pure (p_pickf rfl rfl) rfl ?_
      refine g_nil ?_
      refine g_qt ?_
      refine g_ifdL rfl (fun h3 => ?_) (fun h3 => ?_)
      · refine g_seq ?_
        refine g_region ?_
        refine g_call (Hin := []) (Hr := ?hr14) (R := ?rr14) rfl rfl rfl ?hin14 ?hc14 ?hk14
        case hin14 => repeat' (first | exact Cover.nil | exact Take.here | apply Cover.cons | apply Take.there)
        case hc14 => intro ρ' hρ hR; exact vawake_ok (hk.mono hρ)
        rintro _ _ ⟨rfl, rfl⟩
        refine g_pure (p_assign rfl) rfl ?_
        refine g_nil ?_
        refine g_qt ?_
        refine g_ret ?_
        refine g_qt_ret ?_
        first | exact g_post (Ho := []) (rs := [.tmp 8]) rfl (.tmp rfl .nil) rfl .nil | (exfalso; omega)
      · refine g_skip ?_
        refine g_qt ?_
        refine g_seq ?_
        refine g_seq ?_
        refine g_region ?_
        refine g_pure (p_move rfl) rfl ?_
        refine g_pure (p_move rfl) rfl ?_
        refine g_call (Hin := []) (Hr := ?hr15) (R := ?rr15) rfl rfl rfl ?hin15 ?hc15 ?hk15
        case hin15 => repeat' (first | exact Cover.nil | exact Take.here | apply Cover.cons | apply Take.there)
        case hc15 => intro ρ' hρ hR; exact size_ok (h.mono hρ) hl' t ht
        rintro _ _ ⟨rfl, rfl⟩
        refine g_pure (p_move rfl) rfl ?_
        refine g_pure (p_move rfl) rfl ?_
        refine g_call (Hin := []) (Hr := ?hr16) (R := ?rr16) rfl rfl rfl ?hin16 ?hc16 ?hk16
        case hin16 => repeat' (first | exact Cover.nil | exact Take.here | apply Cover.cons | apply Take.there)
        case hc16 => intro ρ' hρ hR; exact dsize_ok (h.mono hρ) hl' t ht
        rintro _ _ ⟨rfl, rfl⟩
        refine g_pure (p_neqF rfl rfl rfl) rfl ?_
        refine g_pure (p_move rfl) rfl ?_
        refine g_yes rfl rfl ?_
        refine g_pure (p_move rfl) rfl ?_
        refine g_yes rfl rfl ?_
        refine g_pure (p_move rfl) rfl ?_
        refine g_yes rfl rfl ?_
        refine g_pure (p_move rfl) rfl ?_
        refine g_yes rfl rfl ?_
        refine g_call (Hin := []) (Hr := ?hr17) (R := ?rr17) rfl rfl rfl ?hin17 ?hc17 ?hk17
        case hin17 => repeat' (first | exact Cover.nil | exact Take.here | apply Cover.cons | apply Take.there)
        case hc17 => intro ρ' hρ hR; exact vhas_ok (h.mono hρ) hl' t v ht
        rintro _ _ ⟨rfl, rfl⟩
        refine g_yes rfl rfl ?_
        refine g_pure (p_move rfl) rfl ?_
        refine g_yes rfl rfl ?_
        refine g_pure (p_move rfl) rfl ?_
        refine g_yes rfl rfl ?_
        refine g_pure (p_move rfl) rfl ?_
        refine g_yes rfl rfl ?_
        refine g_call (Hin := []) (Hr := ?hr18) (R := ?rr18) rfl rfl rfl ?hin18 ?hc18 ?hk18
        case hin18 => repeat' (first | exact Cover.nil | exact Take.here | apply Cover.cons | apply Take.there)
        case hc18 => intro ρ' hρ hR; exact vdhas_ok (h.mono hρ) hl' t v ht
        rintro _ _ ⟨rfl, rfl⟩
        refine g_yes rfl rfl ?_
        refine g_pure (p_neqbF (by rfl) rfl rfl rfl) rfl ?_
        first | refine g_pure (p_pickt rfl rfl) rfl ?_ | refine g_pure (p_pickf rfl rfl) rfl ?_
        refine g_nil ?_
        refine g_qt ?_
        refine g_iff rfl ?_
        refine g_skip ?_
        refine g_qt ?_
        refine g_seq ?_
        refine g_region ?_
        refine g_pure (p_move rfl) rfl ?_
        refine g_pure (p_move rfl) rfl ?_
        refine g_call (Hin := []) (Hr := ?hr19) (R := ?rr19) rfl rfl rfl ?hin19 ?hc19 ?hk19
        case hin19 => repeat' (first | exact Cover.nil | exact Take.here | apply Cover.cons | apply Take.there)
        case hc19 => intro ρ' hρ hR; exact name_r (h.mono hρ) hl' ht hp
        rintro _ _ ⟨rfl, rfl⟩
        refine g_pure (p_move rfl) rfl ?_
        refine g_pure (p_extract rfl rfl) rfl ?_
        refine g_pure (p_extract rfl rfl) rfl ?_
        refine g_pure (p_assign rfl) rfl ?_
        refine g_pure (p_assign rfl) rfl ?_
        refine g_nil ?_
        refine g_qt ?_
        refine g_seq ?_
        refine g_region ?_
        refine g_pure (p_move rfl) rfl ?_
        refine g_pure (p_move rfl) rfl ?_
        refine g_call (Hin := []) (Hr := ?hr20) (R := ?rr20) rfl rfl rfl ?hin20 ?hc20 ?hk20
        case hin20 => repeat' (first | exact Cover.nil | exact Take.here | apply Cover.cons | apply Take.there)
        case hc20 => intro ρ' hρ hR; exact dname_r (h.mono hρ) hl' ht hp
        rintro _ _ ⟨rfl, rfl⟩
        refine g_pure (p_move rfl) rfl ?_
        refine g_pure (p_extract rfl rfl) rfl ?_
        refine g_pure (p_extract rfl rfl) rfl ?_
        refine g_pure (p_assign rfl) rfl ?_
        refine g_pure (p_assign rfl) rfl ?_
        refine g_nil ?_
        refine g_qt ?_
        refine g_seq ?_
        refine g_seq ?_
        refine g_region ?_
        refine g_pure (p_move rfl) rfl ?_
        refine g_pure (p_move rfl) rfl ?_
        refine g_pure (p_neqsF (by rfl) rfl rfl rfl) rfl ?_
        refine g_pure (p_move rfl) rfl ?_
        refine g_yes rfl rfl ?_
        refine g_pure (p_move rfl) rfl ?_
        refine g_yes rfl rfl ?_
        refine g_pure (p_move rfl) rfl ?_
        refine g_yes rfl rfl ?_
        refine g_pure (p_neqbF (by rfl) rfl rfl rfl) rfl ?_
        first | refine g_pure (p_pickt rfl rfl) rfl ?_ | refine g_pure (p_pickf rfl rfl) rfl ?_
        refine g_nil ?_
        refine g_qt ?_
        refine g_iff rfl ?_
        refine g_skip ?_
        refine g_qt ?_
        refine g_seq ?_
        refine g_region ?_
        refine g_pure (p_move rfl) rfl ?_
        refine g_pure (p_move rfl) rfl ?_
        refine g_call (Hin := []) (Hr := ?hr21) (R := ?rr21) rfl rfl rfl ?hin21 ?hc21 ?hk21
        case hin21 => repeat' (first | exact Cover.nil | exact Take.here | apply Cover.cons | apply Take.there)
        case hc21 => intro ρ' hρ hR; exact type_ok (h.mono hρ) hl _
        rintro _ _ ⟨rfl, rfl⟩
        refine g_pure (p_move rfl) rfl ?_
        refine g_pure (p_extract rfl rfl) rfl ?_
        refine g_pure (p_extract rfl rfl) rfl ?_
        refine g_pure (p_assign rfl) rfl ?_
        refine g_pure (p_assign rfl) rfl ?_
        refine g_nil ?_
        refine g_qt ?_
        refine g_seq ?_
        refine g_region ?_
        refine g_pure (p_move rfl) rfl ?_
        refine g_pure (p_move rfl) rfl ?_
        refine g_call (Hin := []) (Hr := ?hr22) (R := ?rr22) rfl rfl rfl ?hin22 ?hc22 ?hk22
        case hin22 => repeat' (first | exact Cover.nil | exact Take.here | apply Cover.cons | apply Take.there)
        case hc22 => intro ρ' hρ hR; exact dtype_ok (h.mono hρ) hl _
        rintro _ _ ⟨rfl, rfl⟩
        refine g_pure (p_move rfl) rfl ?_
        refine g_pure (p_extract rfl rfl) rfl ?_
        refine g_pure (p_extract rfl rfl) rfl ?_
        refine g_pure (p_assign rfl) rfl ?_
        refine g_pure (p_assign rfl) rfl ?_
        refine g_nil ?_
        refine g_qt ?_
        refine g_seq ?_
        refine g_seq ?_
        refine g_region ?_
        refine g_pure (p_move rfl) rfl ?_
        refine g_pure (p_move rfl) rfl ?_
        refine g_pure (p_neqF rfl rfl rfl) rfl ?_
        refine g_pure (p_move rfl) rfl ?_
        refine g_yes rfl rfl ?_
        refine g_pure (p_move rfl) rfl ?_
        refine g_yes rfl rfl ?_
        refine g_pure (p_move rfl) rfl ?_
        refine g_yes rfl rfl ?_
        refine g_pure (p_neqbF (by rfl) rfl rfl rfl) rfl ?_
        first | refine g_pure (p_pickt rfl rfl) rfl ?_ | refine g_pure (p_pickf rfl rfl) rfl ?_
        refine g_nil ?_
        refine g_qt ?_
        refine g_iff rfl ?_
        refine g_skip ?_
        refine g_qt ?_
        refine g_seq ?_
        refine g_region ?_
        refine g_pure (p_move rfl) rfl ?_
        refine g_pure (p_move rfl) rfl ?_
        refine g_call (Hin := []) (Hr := ?hr23) (R := ?rr23) rfl rfl rfl ?hin23 ?hc23 ?hk23
        case hin23 => repeat' (first | exact Cover.nil | exact Take.here | apply Cover.cons | apply Take.there)
        case hc23 => intro ρ' hρ hR; exact type_r (h.mono hρ) hl hq
        rintro _ _ ⟨rfl, rfl⟩
        refine g_pure (p_move rfl) rfl ?_
        refine g_pure (p_extract rfl rfl) rfl ?_
        refine g_pure (p_extract rfl rfl) rfl ?_
        refine g_pure (p_assign rfl) rfl ?_
        refine g_pure (p_assign rfl) rfl ?_
        refine g_nil ?_
        refine g_qt ?_
        refine g_seq ?_
        refine g_region ?_
        refine g_pure (p_move rfl) rfl ?_
        refine g_pure (p_move rfl) rfl ?_
        refine g_call (Hin := []) (Hr := ?hr24) (R := ?rr24) rfl rfl rfl ?hin24 ?hc24 ?hk24
        case hin24 => repeat' (first | exact Cover.nil | exact Take.here | apply Cover.cons | apply Take.there)
        case hc24 => intro ρ' hρ hR; exact name_r (h.mono hρ) hl' hx hr
        rintro _ _ ⟨rfl, rfl⟩
        refine g_pure (p_move rfl) rfl ?_
        refine g_pure (p_extract rfl rfl) rfl ?_
        refine g_pure (p_extract rfl rfl) rfl ?_
        refine g_pure (p_assign rfl) rfl ?_
        refine g_pure (p_assign rfl) rfl ?_
        refine g_nil ?_
        refine g_qt ?_
        refine g_seq ?_
        refine g_region ?_
        refine g_pure (p_move rfl) rfl ?_
        refine g_pure (p_not rfl) rfl ?_
        refine g_pure (p_move rfl) rfl ?_
        refine g_yes rfl rfl ?_
        refine g_pure (p_move rfl) rfl ?_
        refine g_yes rfl rfl ?_
        refine g_pure (p_move rfl) rfl ?_
        refine g_yes rfl rfl ?_
        refine g_pure (p_move rfl) rfl ?_
        refine g_yes rfl rfl ?_
        first | refine g_pure (p_pickt rfl rfl) rfl ?_ | refine g_pure (p_pickf rfl rfl) rfl ?_
        refine g_yes rfl rfl ?_
        refine g_pure (p_move rfl) rfl ?_
        refine g_yes rfl rfl ?_
        refine g_pure (p_move rfl) rfl ?_
        refine g_yes rfl rfl ?_
        refine g_pure (p_move rfl) rfl ?_
        refine g_yes rfl rfl ?_
        refine g_pure (p_eqlsT (by rfl) rfl rfl rfl) rfl ?_
        refine g_yes rfl rfl ?_
        first | refine g_pure (p_pickt rfl rfl) rfl ?_ | refine g_pure (p_pickf rfl rfl) rfl ?_
        refine g_yes rfl rfl ?_
        refine g_pure (p_move rfl) rfl ?_
        refine g_yes rfl rfl ?_
        refine g_pure (p_move rfl) rfl ?_
        refine g_yes rfl rfl ?_
        refine g_pure (p_move rfl) rfl ?_
        refine g_yes rfl rfl ?_
        refine g_pure (p_leq rfl rfl) rfl ?_
        refine g_yes rfl rfl ?_
        first | refine g_pure (p_pickt rfl rfl) rfl ?_ | refine g_pure (p_pickf rfl rfl) rfl ?_
        first | refine g_pure (p_pickt rfl rfl) rfl ?_ | refine g_pure (p_pickf rfl rfl) rfl ?_
        refine g_pure (p_move rfl) rfl ?_
        refine g_splitd rfl rfl (fun h14 => ?_) (fun h14 => ?_)
        · refine g_no rfl rfl rfl rfl ?_
          refine g_no rfl rfl rfl rfl ?_
          first | refine g_pure (p_pickt rfl rfl) rfl ?_ | refine g_pure (p_pickf rfl rfl) rfl ?_
          refine g_pure (p_move rfl) rfl ?_
          refine g_yes rfl rfl ?_
          refine g_call (Hin := []) (Hr := ?hr25) (R := ?rr25) rfl rfl rfl ?hin25 ?hc25 ?hk25
          case hin25 => repeat' (first | exact Cover.nil | exact Take.here | apply Cover.cons | apply Take.there)
          case hc25 => intro ρ' hρ hR; exact vawake_ok (hk.mono hρ)
          rintro _ _ ⟨rfl, rfl⟩
          first | refine g_pure (p_pickt rfl rfl) rfl ?_ | refine g_pure (p_pickf rfl rfl) rfl ?_
          refine g_pure (p_assign rfl) rfl ?_
          refine g_nil ?_
          refine g_qt ?_
          refine g_ret ?_
          first | exact g_post (Ho := []) (rs := [.tmp 8]) rfl (.tmp rfl .nil) rfl .nil | (exfalso; omega)
        · refine g_yes rfl rfl ?_
          refine g_pure (p_move rfl) rfl ?_
          refine g_yes rfl rfl ?_
          refine g_pure (p_lss rfl rfl) rfl ?_
          first | refine g_pure (p_pickt rfl rfl) rfl ?_ | refine g_pure (p_pickf rfl rfl) rfl ?_
          refine g_pure (p_move rfl) rfl ?_
          refine g_splitd rfl rfl (fun h16 => ?_) (fun h16 => ?_)
          · refine g_yes rfl rfl ?_
            refine g_call (Hin := []) (Hr := ?hr26) (R := ?rr26) rfl rfl rfl ?hin26 ?hc26 ?hk26
            case hin26 => repeat' (first | exact Cover.nil | exact Take.here | apply Cover.cons | apply Take.there)
            case hc26 => intro ρ' hρ hR; exact vawake_ok (hk.mono hρ)
            rintro _ _ ⟨rfl, rfl⟩
            first | refine g_pure (p_pickt rfl rfl) rfl ?_ | refine g_pure (p_pickf rfl rfl) rfl ?_
            refine g_pure (p_assign rfl) rfl ?_
            refine g_nil ?_
            refine g_qt ?_
            refine g_ret ?_
            first | exact g_post (Ho := []) (rs := [.tmp 8]) rfl (.tmp rfl .nil) rfl .nil | (exfalso; omega)
          · refine g_no rfl rfl rfl rfl ?_
            first | refine g_pure (p_pickt rfl rfl) rfl ?_ | refine g_pure (p_pickf rfl rfl) rfl ?_
            refine g_pure (p_assign rfl) rfl ?_
            refine g_nil ?_
            refine g_qt ?_
            refine g_ret ?_
            first | exact g_post (Ho := []) (rs := [.tmp 8]) rfl (.tmp rfl .nil) rfl .nil | (exfalso; omega)
  · have k0 : (nameF l t).2 = false := by rw [nameF_known]; exact decide_eq_false hkn
    obtain ⟨nm, hp⟩ : ∃ nm, nameF l t = (nm, false) := ⟨_, Prod.ext rfl k0⟩
    rw [hp] at hx
    dsimp only at hx
    obtain ⟨⟨x, okx⟩, hq⟩ : ∃ q, typeF l nm = q := ⟨_, rfl⟩
    rw [hq] at hx
    dsimp only at hx
    obtain ⟨⟨ny, oky⟩, hr⟩ : ∃ q, nameF l x = q := ⟨_, rfl⟩
    refine con_intro Tryd.func10 Tryd.call10 rfl Tryd.ntmps10 rfl (L := [(0, _), (1, _), (2, _), (3, _)]) rfl fun w hh => ?_
    refine g_seq ?_
    refine g_region ?_
    refine g_pure (p_assign rfl) rfl ?_
    refine g_nil ?_
    refine g_qt ?_
    refine g_seq ?_
    refine g_seq ?_
    refine g_region ?_
    refine g_pure (p_move rfl) rfl ?_
    refine g_call (Hin := []) (Hr := ?hr27) (R := ?rr27) rfl rfl rfl ?hin27 ?hc27 ?hk27
    case hin27 => repeat' (first | exact Cover.nil | exact Take.here | apply Cover.cons | apply Take.there)
    case hc27 => intro ρ' hρ hR; exact vhuge_ok (h.mono hρ) hl
    rintro _ _ ⟨⟨b, rfl⟩, rfl⟩
    refine g_pure (p_move rfl) rfl ?_
    refine g_split rfl rfl (fun h1 => ?_) (fun h1 => ?_)
    · refine g_no rfl rfl rfl rfl ?_
      refine g_no rfl rfl rfl rfl ?_
      refine g_no rfl rfl rfl rfl ?_
      first | refine g_pure (p_pickt rfl rfl) rfl ?_ | refine g_pure (p_pickf rfl rfl) rfl ?_
      refine g_nil ?_
      refine g_qt ?_
      refine g_ift rfl ?_
      refine g_seq ?_
      refine g_region ?_
      refine g_call (Hin := []) (Hr := ?hr28) (R := ?rr28) rfl rfl rfl ?hin28 ?hc28 ?hk28
      case hin28 => repeat' (first | exact Cover.nil | exact Take.here | apply Cover.cons | apply Take.there)
      case hc28 => intro ρ' hρ hR; exact vawake_ok (hk.mono hρ)
      rintro _ _ ⟨rfl, rfl⟩
      refine g_pure (p_assign rfl) rfl ?_
      refine g_nil ?_
      refine g_qt ?_
      refine g_ret ?_
      refine g_qt_ret ?_
      first | exact g_post (Ho := []) (rs := [.tmp 8]) rfl (.tmp rfl .nil) rfl .nil | (exfalso; omega)
    · refine g_yes rfl rfl ?_
      refine g_pure (p_move rfl) rfl ?_
      refine g_yes rfl rfl ?_
      refine g_pure (p_lens (by rfl) rfl) rfl ?_
      refine g_yes rfl rfl ?_
      refine g_pure (p_gtr rfl rfl) rfl ?_
      first | refine g_pure (p_pickt rfl rfl) rfl ?_ | refine g_pure (p_pickf rfl rfl) rfl ?_
      refine g_nil ?_
      refine g_qt ?_
      refine g_ifdL rfl (fun h3 => ?_) (fun h3 => ?_)
      · refine g_seq ?_
        refine g_region ?_
        refine g_call (Hin := []) (Hr := ?hr29) (R := ?rr29) rfl rfl rfl ?hin29 ?hc29 ?hk29
        case hin29 => repeat' (first | exact Cover.nil | exact Take.here | apply Cover.cons | apply Take.there)
        case hc29 => intro ρ' hρ hR; exact vawake_ok (hk.mono hρ)
        rintro _ _ ⟨rfl, rfl⟩
        refine g_pure (p_assign rfl) rfl ?_
        refine g_nil ?_
        refine g_qt ?_
        refine g_ret ?_
        refine g_qt_ret ?_
        first | exact g_post (Ho := []) (rs := [.tmp 8]) rfl (.tmp rfl .nil) rfl .nil | (exfalso; omega)
      · refine g_skip ?_
        refine g_qt ?_
        refine g_seq ?_
        refine g_seq ?_
        refine g_region ?_
        refine g_pure (p_move rfl) rfl ?_
        refine g_pure (p_move rfl) rfl ?_
        refine g_call (Hin := []) (Hr := ?hr30) (R := ?rr30) rfl rfl rfl ?hin30 ?hc30 ?hk30
        case hin30 => repeat' (first | exact Cover.nil | exact Take.here | apply Cover.cons | apply Take.there)
        case hc30 => intro ρ' hρ hR; exact size_ok (h.mono hρ) hl' t ht
        rintro _ _ ⟨rfl, rfl⟩
        refine g_pure (p_move rfl) rfl ?_
        refine g_pure (p_move rfl) rfl ?_
        refine g_call (Hin := []) (Hr := ?hr31) (R := ?rr31) rfl rfl rfl ?hin31 ?hc31 ?hk31
        case hin31 => repeat' (first | exact Cover.nil | exact Take.here | apply Cover.cons | apply Take.there)
        case hc31 => intro ρ' hρ hR; exact dsize_ok (h.mono hρ) hl' t ht
        rintro _ _ ⟨rfl, rfl⟩
        refine g_pure (p_neqF rfl rfl rfl) rfl ?_
        refine g_pure (p_move rfl) rfl ?_
        refine g_yes rfl rfl ?_
        refine g_pure (p_move rfl) rfl ?_
        refine g_yes rfl rfl ?_
        refine g_pure (p_move rfl) rfl ?_
        refine g_yes rfl rfl ?_
        refine g_pure (p_move rfl) rfl ?_
        refine g_yes rfl rfl ?_
        refine g_call (Hin := []) (Hr := ?hr32) (R := ?rr32) rfl rfl rfl ?hin32 ?hc32 ?hk32
        case hin32 => repeat' (first | exact Cover.nil | exact Take.here | apply Cover.cons | apply Take.there)
        case hc32 => intro ρ' hρ hR; exact vhas_ok (h.mono hρ) hl' t v ht
        rintro _ _ ⟨rfl, rfl⟩
        refine g_yes rfl rfl ?_
        refine g_pure (p_move rfl) rfl ?_
        refine g_yes rfl rfl ?_
        refine g_pure (p_move rfl) rfl ?_
        refine g_yes rfl rfl ?_
        refine g_pure (p_move rfl) rfl ?_
        refine g_yes rfl rfl ?_
        refine g_call (Hin := []) (Hr := ?hr33) (R := ?rr33) rfl rfl rfl ?hin33 ?hc33 ?hk33
        case hin33 => repeat' (first | exact Cover.nil | exact Take.here | apply Cover.cons | apply Take.there)
        case hc33 => intro ρ' hρ hR; exact vdhas_ok (h.mono hρ) hl' t v ht
        rintro _ _ ⟨rfl, rfl⟩
        refine g_yes rfl rfl ?_
        refine g_pure (p_neqbF (by rfl) rfl rfl rfl) rfl ?_
        first | refine g_pure (p_pickt rfl rfl) rfl ?_ | refine g_pure (p_pickf rfl rfl) rfl ?_
        refine g_nil ?_
        refine g_qt ?_
        refine g_iff rfl ?_
        refine g_skip ?_
        refine g_qt ?_
        refine g_seq ?_
        refine g_region ?_
        refine g_pure (p_move rfl) rfl ?_
        refine g_pure (p_move rfl) rfl ?_
        refine g_call (Hin := []) (Hr := ?hr34) (R := ?rr34) rfl rfl rfl ?hin34 ?hc34 ?hk34
        case hin34 => repeat' (first | exact Cover.nil | exact Take.here | apply Cover.cons | apply Take.there)
        case hc34 => intro ρ' hρ hR; exact name_r (h.mono hρ) hl' ht hp
        rintro _ _ ⟨rfl, rfl⟩
        refine g_pure (p_move rfl) rfl ?_
        refine g_pure (p_extract rfl rfl) rfl ?_
        refine g_pure (p_extract rfl rfl) rfl ?_
        refine g_pure (p_assign rfl) rfl ?_
        refine g_pure (p_assign rfl) rfl ?_
        refine g_nil ?_
        refine g_qt ?_
        refine g_seq ?_
        refine g_region ?_
        refine g_pure (p_move rfl) rfl ?_
        refine g_pure (p_move rfl) rfl ?_
        refine g_call (Hin := []) (Hr := ?hr35) (R := ?rr35) rfl rfl rfl ?hin35 ?hc35 ?hk35
        case hin35 => repeat' (first | exact Cover.nil | exact Take.here | apply Cover.cons | apply Take.there)
        case hc35 => intro ρ' hρ hR; exact dname_r (h.mono hρ) hl' ht hp
        rintro _ _ ⟨rfl, rfl⟩
        refine g_pure (p_move rfl) rfl ?_
        refine g_pure (p_extract rfl rfl) rfl ?_
        refine g_pure (p_extract rfl rfl) rfl ?_
        refine g_pure (p_assign rfl) rfl ?_
        refine g_pure (p_assign rfl) rfl ?_
        refine g_nil ?_
        refine g_qt ?_
        refine g_seq ?_
        refine g_seq ?_
        refine g_region ?_
        refine g_pure (p_move rfl) rfl ?_
        refine g_pure (p_move rfl) rfl ?_
        refine g_pure (p_neqsF (by rfl) rfl rfl rfl) rfl ?_
        refine g_pure (p_move rfl) rfl ?_
        refine g_yes rfl rfl ?_
        refine g_pure (p_move rfl) rfl ?_
        refine g_yes rfl rfl ?_
        refine g_pure (p_move rfl) rfl ?_
        refine g_yes rfl rfl ?_
        refine g_pure (p_neqbF (by rfl) rfl rfl rfl) rfl ?_
        first | refine g_pure (p_pickt rfl rfl) rfl ?_ | refine g_pure (p_pickf rfl rfl) rfl ?_
        refine g_nil ?_
        refine g_qt ?_
        refine g_iff rfl ?_
        refine g_skip ?_
        refine g_qt ?_
        refine g_seq ?_
        refine g_region ?_
        refine g_pure (p_move rfl) rfl ?_
        refine g_pure (p_move rfl) rfl ?_
        refine g_call (Hin := []) (Hr := ?hr36) (R := ?rr36) rfl rfl rfl ?hin36 ?hc36 ?hk36
        case hin36 => repeat' (first | exact Cover.nil | exact Take.here | apply Cover.cons | apply Take.there)
        case hc36 => intro ρ' hρ hR; exact type_ok (h.mono hρ) hl _
        rintro _ _ ⟨rfl, rfl⟩
        refine g_pure (p_move rfl) rfl ?_
        refine g_pure (p_extract rfl rfl) rfl ?_
        refine g_pure (p_extract rfl rfl) rfl ?_
        refine g_pure (p_assign rfl) rfl ?_
        refine g_pure (p_assign rfl) rfl ?_
        refine g_nil ?_
        refine g_qt ?_
        refine g_seq ?_
        refine g_region ?_
        refine g_pure (p_move rfl) rfl ?_
        refine g_pure (p_move rfl) rfl ?_
        refine g_call (Hin := []) (Hr := ?hr37) (R := ?rr37) rfl rfl rfl ?hin37 ?hc37 ?hk37
        case hin37 => repeat' (first | exact Cover.nil | exact Take.here | apply Cover.cons | apply Take.there)
        case hc37 => intro ρ' hρ hR; exact dtype_ok (h.mono hρ) hl _
        rintro _ _ ⟨rfl, rfl⟩
        refine g_pure (p_move rfl) rfl ?_
        refine g_pure (p_extract rfl rfl) rfl ?_
        refine g_pure (p_extract rfl rfl) rfl ?_
        refine g_pure (p_assign rfl) rfl ?_
        refine g_pure (p_assign rfl) rfl ?_
        refine g_nil ?_
        refine g_qt ?_
        refine g_seq ?_
        refine g_seq ?_
        refine g_region ?_
        refine g_pure (p_move rfl) rfl ?_
        refine g_pure (p_move rfl) rfl ?_
        refine g_pure (p_neqF rfl rfl rfl) rfl ?_
        refine g_pure (p_move rfl) rfl ?_
        refine g_yes rfl rfl ?_
        refine g_pure (p_move rfl) rfl ?_
        refine g_yes rfl rfl ?_
        refine g_pure (p_move rfl) rfl ?_
        refine g_yes rfl rfl ?_
        refine g_pure (p_neqbF (by rfl) rfl rfl rfl) rfl ?_
        first | refine g_pure (p_pickt rfl rfl) rfl ?_ | refine g_pure (p_pickf rfl rfl) rfl ?_
        refine g_nil ?_
        refine g_qt ?_
        refine g_iff rfl ?_
        refine g_skip ?_
        refine g_qt ?_
        refine g_seq ?_
        refine g_region ?_
        refine g_pure (p_move rfl) rfl ?_
        refine g_pure (p_move rfl) rfl ?_
        refine g_call (Hin := []) (Hr := ?hr38) (R := ?rr38) rfl rfl rfl ?hin38 ?hc38 ?hk38
        case hin38 => repeat' (first | exact Cover.nil | exact Take.here | apply Cover.cons | apply Take.there)
        case hc38 => intro ρ' hρ hR; exact type_r (h.mono hρ) hl hq
        rintro _ _ ⟨rfl, rfl⟩
        refine g_pure (p_move rfl) rfl ?_
        refine g_pure (p_extract rfl rfl) rfl ?_
        refine g_pure (p_extract rfl rfl) rfl ?_
        refine g_pure (p_assign rfl) rfl ?_
        refine g_pure (p_assign rfl) rfl ?_
        refine g_nil ?_
        refine g_qt ?_
        refine g_seq ?_
        refine g_region ?_
        refine g_pure (p_move rfl) rfl ?_
        refine g_pure (p_move rfl) rfl ?_
        refine g_call (Hin := []) (Hr := ?hr39) (R := ?rr39) rfl rfl rfl ?hin39 ?hc39 ?hk39
        case hin39 => repeat' (first | exact Cover.nil | exact Take.here | apply Cover.cons | apply Take.there)
        case hc39 => intro ρ' hρ hR; exact name_r (h.mono hρ) hl' hx hr
        rintro _ _ ⟨rfl, rfl⟩
        refine g_pure (p_move rfl) rfl ?_
        refine g_pure (p_extract rfl rfl) rfl ?_
        refine g_pure (p_extract rfl rfl) rfl ?_
        refine g_pure (p_assign rfl) rfl ?_
        refine g_pure (p_assign rfl) rfl ?_
        refine g_nil ?_
        refine g_qt ?_
        refine g_seq ?_
        refine g_region ?_
        refine g_pure (p_move rfl) rfl ?_
        refine g_pure (p_not rfl) rfl ?_
        refine g_pure (p_move rfl) rfl ?_
        refine g_no rfl rfl rfl rfl ?_
        refine g_no rfl rfl rfl rfl ?_
        refine g_nou rfl rfl rfl ?_
        refine g_no rfl rfl rfl rfl ?_
        refine g_no rfl rfl rfl rfl ?_
        refine g_nou rfl rfl rfl ?_
        refine g_nou rfl rfl rfl ?_
        refine g_nou rfl rfl rfl ?_
        refine g_no rfl rfl rfl rfl ?_
        refine g_no rfl rfl rfl rfl ?_
        refine g_nou rfl rfl rfl ?_
        refine g_nou rfl rfl rfl ?_
        refine g_nou rfl rfl rfl ?_
        refine g_no rfl rfl rfl rfl ?_
        first | refine g_pure (p_pickt rfl rfl) rfl ?_ | refine g_pure (p_pickf rfl rfl) rfl ?_
        refine g_pure (p_move rfl) rfl ?_
        refine g_no rfl rfl rfl rfl ?_
        refine g_no rfl rfl rfl rfl ?_
        first | refine g_pure (p_pickt rfl rfl) rfl ?_ | refine g_pure (p_pickf rfl rfl) rfl ?_
        refine g_pure (p_move rfl) rfl ?_
        refine g_yes rfl rfl ?_
        refine g_call (Hin := []) (Hr := ?hr40) (R := ?rr40) rfl rfl rfl ?hin40 ?hc40 ?hk40
        case hin40 => repeat' (first | exact Cover.nil | exact Take.here | apply Cover.cons | apply Take.there)
        case hc40 => intro ρ' hρ hR; exact vawake_ok (hk.mono hρ)
        rintro _ _ ⟨rfl, rfl⟩
        first | refine g_pure (p_pickt rfl rfl) rfl ?_ | refine g_pure (p_pickf rfl rfl) rfl ?_
        refine g_pure (p_assign rfl) rfl ?_
        refine g_nil ?_
        refine g_qt ?_
        refine g_ret ?_
        first | exact g_post (Ho := []) (rs := [.tmp 8]) rfl (.tmp rfl .nil) rfl .nil | (exfalso; omega)
theorem rd_enlen {H : Type} {enc : TypeId × Value → H} {W : World} {a : Option Addr} {n c : Nat} (h : Rdw enc Tryd.prog W 22 [.slice a n c]) : n ≤ 9223372036854775800 := by
  obtain ⟨a', cap, xss, e, h1, h2, h3, h4, h5⟩ := rdw_slice Tryd.underlying22 (size := 2) (by kernel_rfl) (by decide) h
  have hb : Tryd.prog.bytesOf 54 = 40 := by kernel_rfl
  rw [hb] at h5
  cases e
  omega
end Go.Proofs.YtkbofpcnhjopaaaDoor
