/- Chapter 40: intervals: the document's interval of an operator. Conditions: none. -/
import Derived.Test.YtlcipnligbjclaaF5
namespace Go.Z.Val
set_option linter.unusedVariables false
set_option linter.unusedSimpArgs false
set_option linter.unusedSectionVars false
open Go Go.Z
/-- all operands are single numbers -/
def sing (op : Int) (l : List Sp) : Bool := l.all fun s => decide ((cutS op s).1 = (cutS op s).2)
theorem sing_take {op : Int} {l : List Sp} {i : Nat} (h : i < l.length) : sing op (l.take (i + 1)) = (sing op (l.take i) && decide ((cutS op l[i]).1 = (cutS op l[i]).2)) := by
  unfold sing
  rw [List.take_add_one, List.getElem?_eq_getElem h, Option.toList_some, List.all_append]; simp
theorem sing_ends {op : Int} {l : List Sp} (h12 : l.length = 1 ∨ l.length = 2) (h0 : 0 < l.length) : sing op l = (decide ((cutS op l[0]).1 = (cutS op l[0]).2) && decide ((cutS op (l[l.length - 1]'(by omega))).1 = (cutS op (l[l.length - 1]'(by omega))).2)) := by
  match l, h12 with
  | [x], _ => simp [sing]
  | [x, y], _ => simp [sing]
theorem fin_dsingle {op : Int} {args : List Sp} {a1 a2 c1 c2 u1 u2 : Int} (hg : (groupF op).1 ≠ 0) (hn : args.length = (groupF op).2) (hne : ∀ s ∈ args, emptyS (cutS op s) = false) (hfull : applyS op args = (resS op (a1, a2) (c1, c2), 0)) (h0 : 0 < args.length) (ea : cutS op args[0] = (a1, a2)) (ec : cutS op (args[args.length - 1]'(by omega)) = (c1, c2)) (h12 : args.length = 1 ∨ args.length = 2)
    (hs : sing op args = true) (hu : ofS (applyF op ((args.map (cutS op)).map (·.1))).1 (applyF op ((args.map (cutS op)).map (·.1))).1 = (u1, u2)) : applyS op args = ((u1, u2), 0) := by
  have hall : ∀ s ∈ args.map (cutS op), argB (groupF op).1 s.1 = true := by
    intro s hs2
    obtain ⟨x, hx, rfl⟩ := List.mem_map.1 hs2
    unfold sing at hs
    rw [List.all_eq_true] at hs
    exact single_arg hg (hne x hx) (of_decide_eq_true (hs x hx))
  rw [apply_lows hg (by simpa using hn) hall, getD_map (cutS op) args 0 (0, 0) (0, 0) h0, ← hn, getD_map (cutS op) args _ (0, 0) (0, 0) (by omega)] at hu
  simp only [List.getD_eq_getElem?_getD] at hu
  rw [List.getElem?_eq_getElem h0, List.getElem?_eq_getElem (by omega : args.length - 1 < args.length)] at hu
  simp only [Option.getD_some, ea, ec] at hu
  rw [sing_ends h12 h0, ea, ec, Bool.and_eq_true, decide_eq_true_iff, decide_eq_true_iff] at hs
  rw [hfull]
  unfold resS
  rw [if_pos hs, ← hu, ofS_of (Int.le_refl _)]
theorem fin_dcomp {op : Int} {args : List Sp} {a1 a2 c1 c2 u1 u2 : Int} (hfull : applyS op args = (resS op (a1, a2) (c1, c2), 0)) (h0 : 0 < args.length) (ea : cutS op args[0] = (a1, a2)) (ec : cutS op (args[args.length - 1]'(by omega)) = (c1, c2)) (h12 : args.length = 1 ∨ args.length = 2)
    (hs : ¬ sing op args = true) (hu : computeS op (a1, a2) (c1, c2) = (u1, u2)) : applyS op args = ((u1, u2), 0) := by
  refine fin_comp hfull (fun h => hs ?_) hu
  rw [sing_ends h12 h0, ea, ec, Bool.and_eq_true, decide_eq_true_iff, decide_eq_true_iff]
  exact h
theorem group_zero {op : Int} : (groupF op).1 = 0 ↔ (groupF op).2 = 0 := by
  have := groupF_cases op
  constructor <;> intro h <;> rcases this with h2 | h2 <;> first | exact h2.1 | exact h2.2 | (exact absurd h h2.1) | omega
end Go.Z.Val
namespace Go.Proofs.Ytlcipnligbjclaa
open Go Go.Z Go.Z.Val

theorem opnds_ok {ρ : Nat → Obj → Prop} (op : Int) : Con Try.prog ρ 13 #[.int .i64 op] [] (fun v H => v = .int .i64 (groupF op).2 ∧ H = []) := by
  refine con_intro Try.func13 Try.call13 rfl Try.ntmps13 rfl (L := [(0, _)]) rfl fun w hh => ?_
  refine g_seq ?_
  refine g_region ?_
  refine g_pure (p_assign rfl) rfl ?_
  refine g_nil ?_
  refine g_qt ?_
  refine g_seq ?_
  refine g_region ?_
  refine g_pure (p_move rfl) rfl ?_
  refine g_call (Hin := []) (Hr := ?hr1) (R := ?rr1) rfl rfl rfl ?hin1 ?hc1 ?hk1
  case hin1 => repeat' (first | exact Cover.nil | exact Take.here | apply Cover.cons | apply Take.there)
  case hc1 => intro ρ' hρ hR; exact operands_ok (k := (groupF op).1) (n := (groupF op).2) rfl
  rintro _ _ ⟨rfl, rfl⟩
  refine g_pure (p_assign rfl) rfl ?_
  refine g_nil ?_
  refine g_qt ?_
  refine g_ret ?_
  exact g_post (Ho := []) (rs := [.tmp 2]) rfl (.tmp rfl .nil) ⟨rfl, rfl⟩ (by repeat' (first | exact Cover.nil | exact Take.here | apply Cover.cons | apply Take.there))

theorem dsapply_ok {ρ : Nat → Obj → Prop} (op : Int) {aa : Option Addr} {ac : Nat} {args : List Sp} (ha : RSl ρ 2 aa args.length (args.flatMap encC)) (hlen : args.length ≤ 1000000) :
    Con Try.prog ρ 11 #[.int .i64 op, .slice aa args.length ac] [] (ApP (applyS op args)) := by
  obtain ⟨_, bl, ol, kl, Tl, fl, hl⟩ := ha
  refine con_intro Try.func11 Try.call11 rfl Try.ntmps11 rfl (L := [(0, _), (1, _)]) rfl fun w hh => ?_
  refine g_seq ?_
  refine g_region ?_
  refine g_eff (e_alloc (by rfl)) rfl (fun _ _ => ?_)
  rintro ⟨b4, rfl, rfl⟩
  refine g_pure (p_assign rfl) rfl ?_
  refine g_nil ?_
  refine g_qt ?_
  refine g_seq ?_
  refine g_seq ?_
  refine g_region ?_
  refine g_pure (p_move rfl) rfl ?_
  refine g_call (Hin := []) (Hr := ?hr2) (R := ?rr2) rfl rfl rfl ?hin2 ?hc2 ?hk2
  case hin2 => repeat' (first | exact Cover.nil | exact Take.here | apply Cover.cons | apply Take.there)
  case hc2 => intro ρ' hρ hR; exact opnds_ok op
  rintro _ _ ⟨rfl, rfl⟩
  refine g_pure (p_eql rfl rfl) rfl ?_
  refine g_nil ?_
  refine g_qt ?_
  refine g_ifd rfl (fun q => ?_) (fun q => ?_)
  · refine g_seq ?_
    refine g_region ?_
    refine g_pure (p_build (by rfl) rfl (by rfl)) rfl ?_
    first | refine g_eff0 (e_storeO rfl rfl (by rfl) (by rfl) (by rfl) (by repeat' (first | exact Take.here | apply Take.there)) (by rfl)) (fun _ _ => ?_) | refine g_eff0 (e_storeN rfl rfl (by rfl) (by rfl) (by rfl) (by repeat' (first | exact Take.here | apply Take.there)) (by simp)) (fun _ _ => ?_)
    rintro rfl
    refine g_pure (p_assign rfl) rfl ?_
    refine g_nil ?_
    refine g_qt ?_
    refine g_ret ?_
    refine g_qt_ret ?_
    exact g_post (rs := [.cell 4 25, .tmp 5]) rfl (Res.cellN (by rfl) rfl (Has.own (by repeat' (first | exact Take.here | apply Take.there))) (by rfl) (.tmp rfl .nil)) ⟨_, _, _, rfl, by unfold applyS; rw [if_pos (group_zero.2 (by omega))], rfl⟩ (by repeat' (first | exact Cover.nil | exact Take.here | apply Cover.cons | apply Take.there))
  · have hg : (groupF op).1 ≠ 0 := fun e => q (by rw [group_zero.1 e]; rfl)
    refine g_skip ?_
    refine g_qt ?_
    refine g_seq ?_
    refine g_seq ?_
    refine g_region ?_
    refine g_pure (p_move rfl) rfl ?_
    refine g_pure (p_len (by rfl) rfl) rfl ?_
    refine g_pure (p_move rfl) rfl ?_
    refine g_call (Hin := []) (Hr := ?hr3) (R := ?rr3) rfl rfl rfl ?hin3 ?hc3 ?hk3
    case hin3 => repeat' (first | exact Cover.nil | exact Take.here | apply Cover.cons | apply Take.there)
    case hc3 => intro ρ' hρ hR; exact opnds_ok op
    rintro _ _ ⟨rfl, rfl⟩
    refine g_pure (p_neq rfl rfl) rfl ?_
    refine g_nil ?_
    refine g_qt ?_
    refine g_ifnd rfl (fun p => ?_) (fun p => ?_)
    · refine g_seq ?_
      refine g_region ?_
      refine g_pure (p_build (by rfl) rfl (by rfl)) rfl ?_
      first | refine g_eff0 (e_storeO rfl rfl (by rfl) (by rfl) (by rfl) (by repeat' (first | exact Take.here | apply Take.there)) (by rfl)) (fun _ _ => ?_) | refine g_eff0 (e_storeN rfl rfl (by rfl) (by rfl) (by rfl) (by repeat' (first | exact Take.here | apply Take.there)) (by simp)) (fun _ _ => ?_)
      rintro rfl
      refine g_pure (p_assign rfl) rfl ?_
      refine g_nil ?_
      refine g_qt ?_
      refine g_ret ?_
      refine g_qt_ret ?_
      exact g_post (rs := [.cell 4 25, .tmp 5]) rfl (Res.cellN (by rfl) rfl (Has.own (by repeat' (first | exact Take.here | apply Take.there))) (by rfl) (.tmp rfl .nil)) ⟨_, _, _, rfl, by unfold applyS; rw [if_neg hg, if_pos (by omega)], rfl⟩ (by repeat' (first | exact Cover.nil | exact Take.here | apply Cover.cons | apply Take.there))
    · have hn : args.length = (groupF op).2 := by omega
      have hn12 : args.length = 1 ∨ args.length = 2 := by
        rcases groupF_cases op with hc | ⟨_, hc⟩
        · exact absurd hc.1 hg
        · omega
      refine g_skip ?_
      refine g_qt ?_
      refine g_seq ?_
      refine g_region ?_
      refine g_pure (p_assign rfl) rfl ?_
      refine g_nil ?_
      refine g_qt ?_
      refine g_seq ?_
      refine g_region ?_
      refine g_pure (p_assign rfl) rfl ?_
      refine g_nil ?_
      refine g_qt ?_
      refine g_seq ?_
      refine g_region ?_
      refine g_pure (p_assign rfl) rfl ?_
      refine g_nil ?_
      refine g_qt ?_
      refine g_seq ?_
      refine g_seq ?_
      refine g_region ?_
      refine g_pure (p_assign rfl) rfl ?_
      refine g_nil ?_
      refine g_qt ?_
      refine g_block ?_
      refine g_ownnil (e := 3) (size := 1) ?_
      refine g_ownnil (e := 25) (size := 2) ?_
      refine g_loop (fun q : Nat × Option Addr × Nat × Option Addr × Nat => [(0, .int .i64 op), (1, .slice aa args.length ac), (4, .pointer (some ⟨b4, 0, none⟩)), (5, .int .i64 0), (6, .bool (sing op (args.take q.1))), (7, .slice q.2.1 q.1 q.2.2.1), (8, .slice q.2.2.2.1 q.1 q.2.2.2.2), (9, .int .i64 q.1)])
        (fun q => [OwnSl 25 2 q.2.2.2.1 q.1 q.2.2.2.2 (((args.take q.1).map (cutS op)).flatMap encC), OwnSl 3 1 q.2.1 q.1 q.2.2.1 ((((args.take q.1).map (cutS op)).map (·.1)).map encI), Blk b4 (.cells [.int .i64 0, .int .i64 0].toArray 25 (0, 0))]) (fun q => q.1 ≤ args.length ∧ ∀ s ∈ args.take q.1, emptyS (cutS op s) = false) (fun q => args.length - q.1) (0, none, 0, none, 0) ⟨Nat.zero_le _, by simp⟩ (by (repeat (first | exact trivial | refine ⟨by rfl, ?_⟩)); done) (by repeat' (first | exact Cover.nil | exact Take.here | apply Cover.cons | apply Take.there)) ?_
      rintro ⟨i, oa, oc, pa, pc⟩ ⟨hi, hne⟩
      dsimp only at hi hne ⊢
      refine g_seq ?_
      refine g_seq ?_
      refine g_region ?_
      refine g_pure (p_move rfl) rfl ?_
      refine g_pure (p_move rfl) rfl ?_
      refine g_pure (p_len (by rfl) rfl) rfl ?_
      refine g_pure (p_lss rfl rfl) rfl ?_
      refine g_nil ?_
      refine g_qt ?_
      refine g_ifd rfl (fun r => ?_) (fun r => ?_)
      · have hk' : i < args.length := by omega
        obtain ⟨l1, l2, l3⟩ := hl (by omega)
        obtain ⟨x0, _, _⟩ := cell_at l3 hk'
        obtain ⟨⟨s1, s2⟩, es⟩ : ∃ s, args[i] = s := ⟨_, rfl⟩
        rw [es] at x0
        have x0' : sub kl (ol + (i : Int).toNat * 2) 2 = some [.int .i64 s1, .int .i64 s2] := x0
        refine g_skip ?_
        refine g_qt ?_
        refine g_seq ?_
        refine g_block ?_
        refine g_seq ?_
        refine g_region ?_
        refine g_pure (p_move rfl) rfl ?_
        refine g_pure (p_move rfl) rfl ?_
        refine g_pure (p_move rfl) rfl ?_
        refine g_pure (p_indexAddr rfl rfl (by omega) (fun _ => l1)) rfl ?_
        refine g_pure (p_loadN (by rfl) rfl (Has.ro l2) x0') rfl ?_
        refine g_call (Hin := []) (Hr := ?hr4) (R := ?rr4) rfl rfl rfl ?hin4 ?hc4 ?hk4
        case hin4 => repeat' (first | exact Cover.nil | exact Take.here | apply Cover.cons | apply Take.there)
        case hc4 => intro ρ' hρ hR; exact dcut_ok op _ _
        rintro _ _ ⟨u1, u2, rfl, hu, rfl⟩
        refine g_eff (e_alloc (by rfl)) rfl (fun _ _ => ?_)
        rintro ⟨b10, rfl, rfl⟩
        first | refine g_eff0 (e_storeO rfl rfl (by rfl) (by rfl) (by rfl) (by repeat' (first | exact Take.here | apply Take.there)) (by rfl)) (fun _ _ => ?_) | refine g_eff0 (e_storeN rfl rfl (by rfl) (by rfl) (by rfl) (by repeat' (first | exact Take.here | apply Take.there)) (by simp)) (fun _ _ => ?_)
        rintro rfl
        refine g_nil ?_
        refine g_qt ?_
        refine g_seq ?_
        refine g_seq ?_
        refine g_region ?_
        first | refine g_pure (p_loadO (by rfl) rfl (by first | (apply Has.own; (repeat' (first | exact Take.here | apply Take.there)); done) | exact Has.ro (by assumption)) (by rfl)) rfl ?_ | refine g_pure (p_loadN (by rfl) rfl (by first | (apply Has.own; (repeat' (first | exact Take.here | apply Take.there)); done) | exact Has.ro (by assumption)) (by first | rfl | assumption)) rfl ?_
        refine g_call (Hin := []) (Hr := ?hr5) (R := ?rr5) rfl rfl rfl ?hin5 ?hc5 ?hk5
        case hin5 => repeat' (first | exact Cover.nil | exact Take.here | apply Cover.cons | apply Take.there)
        case hc5 => intro ρ' hρ hR; exact dempty_ok _ _
        rintro _ _ ⟨rfl, rfl⟩
        refine g_nil ?_
        refine g_qt ?_
        rw [← es] at hu
        refine g_ifd rfl (fun h2 => ?_) (fun h2 => ?_)
        · refine g_seq ?_
          refine g_region ?_
          refine g_call (Hin := []) (Hr := ?hr6) (R := ?rr6) rfl rfl rfl ?hin6 ?hc6 ?hk6
          case hin6 => repeat' (first | exact Cover.nil | exact Take.here | apply Cover.cons | apply Take.there)
          case hc6 => intro ρ' hρ hR; exact dnone_ok
          rintro _ _ ⟨v1, v2, rfl, hv, rfl⟩
          first | refine g_eff0 (e_storeO rfl rfl (by rfl) (by rfl) (by rfl) (by repeat' (first | exact Take.here | apply Take.there)) (by rfl)) (fun _ _ => ?_) | refine g_eff0 (e_storeN rfl rfl (by rfl) (by rfl) (by rfl) (by repeat' (first | exact Take.here | apply Take.there)) (by simp)) (fun _ _ => ?_)
          rintro rfl
          refine g_pure (p_assign rfl) rfl ?_
          refine g_nil ?_
          refine g_qt ?_
          refine g_ret ?_
          refine g_qt_ret ?_
          refine g_qb_ret ?_
          refine g_qt_ret ?_
          refine g_qn_ret ?_
          refine g_qb_ret ?_
          refine g_qt_ret ?_
          cases hv
          exact g_post (rs := [.cell 4 25, .tmp 5]) rfl (Res.cellN (by rfl) rfl (Has.own (by repeat' (first | exact Take.here | apply Take.there))) (by rfl) (.tmp rfl .nil)) ⟨_, _, _, rfl, applyS_empty hg hn hk' (by rw [hu]; exact decide_eq_true h2), rfl⟩ (by repeat' (first | exact Cover.nil | exact Take.here | apply Cover.cons | apply Take.there))
        · have hm2 : ((args.take i).map (cutS op)).flatMap encC ++ [.int .i64 u1, .int .i64 u2] = ((args.take (i + 1)).map (cutS op)).flatMap encC := by rw [map_take hk', hu]; simp [encC]
          have hm3 : ((((args.take i).map (cutS op)).map (·.1)).map encI) ++ [.int .i64 u1] = (((args.take (i + 1)).map (cutS op)).map (·.1)).map encI := by rw [map_take hk', hu]; simp [encI]
          have hsg : sing op (args.take (i + 1)) = (sing op (args.take i) && decide (u1 = u2)) := by rw [sing_take hk', hu]
          refine g_skip ?_
          refine g_qt ?_
          refine g_seq ?_
          refine g_join (fun b : Bool => [(0, .int .i64 op), (1, .slice aa args.length ac), (4, .pointer (some ⟨b4, 0, none⟩)), (5, .int .i64 0), (6, .bool b), (7, .slice oa i oc), (8, .slice pa i pc), (9, .int .i64 i), (10, .pointer (some ⟨b10, 0, none⟩))])
            (fun _ => [Blk b10 (.cells [.int .i64 u1, .int .i64 u2].toArray 25 (0, 0)), OwnSl 25 2 pa i pc (((args.take i).map (cutS op)).flatMap encC), OwnSl 3 1 oa i oc ((((args.take i).map (cutS op)).map (·.1)).map encI), Blk b4 (.cells [.int .i64 0, .int .i64 0].toArray 25 (0, 0))]) (fun b => b = sing op (args.take (i + 1))) ?_ ?_
          · refine g_region ?_
            refine g_pure (p_move rfl) rfl ?_
            refine g_pure (p_move rfl) rfl ?_
            refine g_split rfl rfl (fun g1 => ?_) (fun g1 => ?_)
            · refine g_yes rfl rfl ?_
              refine g_pure (p_fieldAddr rfl) rfl ?_
              refine g_yes rfl rfl ?_
              refine g_pure (p_load (by rfl) rfl (by first | (apply Has.own; (repeat' (first | exact Take.here | apply Take.there)); done) | exact Has.ro (by assumption)) (by first | rfl | assumption)) rfl ?_
              refine g_yes rfl rfl ?_
              refine g_pure (p_fieldAddr rfl) rfl ?_
              refine g_yes rfl rfl ?_
              refine g_pure (p_load (by rfl) rfl (by first | (apply Has.own; (repeat' (first | exact Take.here | apply Take.there)); done) | exact Has.ro (by assumption)) (by first | rfl | assumption)) rfl ?_
              refine g_yes rfl rfl ?_
              refine g_pure (p_eql rfl rfl) rfl ?_
              first | refine g_pure (p_pickt rfl rfl) rfl ?_ | refine g_pure (p_pickf rfl rfl) rfl ?_
              refine g_pure (p_assign rfl) rfl ?_
              refine g_nil ?_
              refine g_qn ?_
              exact g_joined (decide (u1 = u2)) (by (repeat (first | exact trivial | refine ⟨by rfl, ?_⟩)); done) (by repeat' (first | exact Cover.nil | exact Take.here | apply Cover.cons | apply Take.there)) (by rw [hsg, g1]; rfl)
            · refine g_no rfl rfl rfl rfl ?_
              refine g_no rfl rfl rfl rfl ?_
              refine g_no rfl rfl rfl rfl ?_
              refine g_no rfl rfl rfl rfl ?_
              refine g_no rfl rfl rfl rfl ?_
              first | refine g_pure (p_pickt rfl rfl) rfl ?_ | refine g_pure (p_pickf rfl rfl) rfl ?_
              refine g_pure (p_assign rfl) rfl ?_
              refine g_nil ?_
              refine g_qn ?_
              exact g_joined false (by (repeat (first | exact trivial | refine ⟨by rfl, ?_⟩)); done) (by repeat' (first | exact Cover.nil | exact Take.here | apply Cover.cons | apply Take.there)) (by rw [hsg, g1]; rfl)
          rintro b hb
          subst hb
          refine g_qt ?_
          refine g_seq ?_
          refine g_region ?_
          refine g_pure (p_move rfl) rfl ?_
          refine g_pure (p_fieldAddr rfl) rfl ?_
          refine g_pure (p_load (by rfl) rfl (by first | (apply Has.own; (repeat' (first | exact Take.here | apply Take.there)); done) | exact Has.ro (by assumption)) (by first | rfl | assumption)) rfl ?_
          refine g_eff (e_bs (xs := [.tmp 48]) rfl rfl rfl (by rfl) (by rfl) rfl (by rfl)) rfl (fun _ _ => ?_)
          rintro ⟨b49, rfl, rfl⟩
          refine g_eff (e_appendO (by rfl) (by rfl) rfl rfl (by first | (apply Has.own; (repeat' (first | exact Take.here | apply Take.there)); done) | exact Has.ro (by assumption)) (by rfl) (by rfl) (by repeat' (first | exact Take.here | apply Take.there)) (by omega) (by first | omega | (dsimp only; omega) | (simp <;> omega)) (by omega)) rfl (fun _ _ => ?_)
          rintro ⟨a50, c50, rfl, rfl⟩
          refine g_pure (p_assign rfl) rfl ?_
          refine g_nil ?_
          refine g_qt ?_
          refine g_region ?_
          refine g_pure (p_move rfl) rfl ?_
          first | refine g_pure (p_loadO (by rfl) rfl (by first | (apply Has.own; (repeat' (first | exact Take.here | apply Take.there)); done) | exact Has.ro (by assumption)) (by rfl)) rfl ?_ | refine g_pure (p_loadN (by rfl) rfl (by first | (apply Has.own; (repeat' (first | exact Take.here | apply Take.there)); done) | exact Has.ro (by assumption)) (by first | rfl | assumption)) rfl ?_
          refine g_eff (e_bs (xs := [.tmp 52]) rfl rfl rfl (by rfl) (by rfl) rfl (by rfl)) rfl (fun _ _ => ?_)
          rintro ⟨b53, rfl, rfl⟩
          refine g_eff (e_appendO (by rfl) (by rfl) rfl rfl (by first | (apply Has.own; (repeat' (first | exact Take.here | apply Take.there)); done) | exact Has.ro (by assumption)) (by rfl) (by rfl) (by repeat' (first | exact Take.here | apply Take.there)) (by omega) (by first | omega | (dsimp only; omega) | (simp <;> omega)) (by omega)) rfl (fun _ _ => ?_)
          rintro ⟨a54, c54, rfl, rfl⟩
          refine g_pure (p_assign rfl) rfl ?_
          refine g_nil ?_
          refine g_qb ?_
          refine g_qt ?_
          refine g_region ?_
          refine g_pure (p_move rfl) rfl ?_
          first | refine g_pure (p_addi rfl rfl (by omega)) rfl ?_ | refine g_pure (p_add rfl rfl) rfl ?_
          refine g_pure (p_assign rfl) rfl ?_
          refine g_nil ?_
          refine g_qn ?_
          refine g_weak (A := OwnSl 25 2 a54 _ c54 (((args.take i).map (cutS op)).flatMap encC ++ [.int .i64 u1, .int .i64 u2])) (B := OwnSl 25 2 a54 (i + 1) c54 (((args.take (i + 1)).map (cutS op)).flatMap encC)) (by repeat' (first | exact Take.here | apply Take.there)) (fun h hh => by rw [← hm2]; exact hh) ?_
          refine g_weak (A := OwnSl 3 1 a50 _ c50 ((((args.take i).map (cutS op)).map (·.1)).map encI ++ [.int .i64 u1])) (B := OwnSl 3 1 a50 (i + 1) c50 ((((args.take (i + 1)).map (cutS op)).map (·.1)).map encI)) (by repeat' (first | exact Take.here | apply Take.there)) (fun h hh => by rw [← hm3]; exact hh) ?_
          exact g_next (i + 1, a50, c50, a54, c54) (by (repeat (first | exact trivial | refine ⟨by rfl, ?_⟩)); done) (by repeat' (first | exact Cover.nil | exact Take.here | apply Cover.cons | apply Take.there)) ⟨by dsimp only; omega, all_take hk' hne (by rw [hu]; exact decide_eq_false h2)⟩ (by dsimp only; omega)
      · obtain rfl : i = args.length := by omega
        rw [List.take_length] at hne ⊢
        have h0 : 0 < args.length := by omega
        have hl1 : args.length - 1 < args.length := by omega
        obtain ⟨⟨a1, a2⟩, ea⟩ : ∃ s, cutS op args[0] = s := ⟨_, rfl⟩
        obtain ⟨⟨c1, c2⟩, ec⟩ : ∃ s, cutS op args[args.length - 1] = s := ⟨_, rfl⟩
        have na := hne _ (List.getElem_mem h0)
        have nc := hne _ (List.getElem_mem hl1)
        have hfull := applyS_full hg hn hne h0
        have hopn := opn_of hg na nc
        rw [ea] at hfull hopn
        rw [ec] at hfull hopn
        refine g_exit ?_
        refine g_qt_exit ?_
        refine g_qn_exit ?_
        refine g_qb_exit ?_
        refine g_qt ?_
        refine g_seq ?_
        refine g_seq ?_
        refine g_region ?_
        refine g_pure (p_move rfl) rfl ?_
        refine g_nil ?_
        refine g_qt ?_
        refine g_if rfl (fun h3 => ?_) (fun h3 => ?_)
        · refine g_seq ?_
          refine g_region ?_
          refine g_pure (p_move rfl) rfl ?_
          refine g_pure (p_move rfl) rfl ?_
          refine g_call (Hin := []) (Hr := ?hr7) (R := ?rr7) rfl rfl rfl ?hin7 ?hc7 ?hk7
          case hin7 => repeat' (first | exact Cover.nil | exact Take.here | apply Cover.cons | apply Take.there)
          case hc7 => intro ρ' hρ hR; exact dapplyk_ok op (args := (args.map (cutS op)).map (·.1)) (by simp) (RSl.of_own (Take.ro (A := OwnSl 3 1 oa args.length oc (((args.map (cutS op)).map (·.1)).map encI)) (by repeat' (first | exact Take.here | apply Take.there)) hR)) (by omega)
          rintro _ _ ⟨rfl, rfl⟩
          refine g_pure (p_move rfl) rfl ?_
          refine g_pure (p_extract rfl rfl) rfl ?_
          refine g_pure (p_extract rfl rfl) rfl ?_
          refine g_pure (p_assign rfl) rfl ?_
          refine g_pure (p_assign rfl) rfl ?_
          refine g_nil ?_
          refine g_qt ?_
          refine g_seq ?_
          refine g_region ?_
          refine g_pure (p_move rfl) rfl ?_
          refine g_pure (p_move rfl) rfl ?_
          refine g_call (Hin := []) (Hr := ?hr8) (R := ?rr8) rfl rfl rfl ?hin8 ?hc8 ?hk8
          case hin8 => repeat' (first | exact Cover.nil | exact Take.here | apply Cover.cons | apply Take.there)
          case hc8 => intro ρ' hρ hR; exact dof_ok _ _
          rintro _ _ ⟨u1, u2, rfl, hu, rfl⟩
          first | refine g_eff0 (e_storeO rfl rfl (by rfl) (by rfl) (by rfl) (by repeat' (first | exact Take.here | apply Take.there)) (by rfl)) (fun _ _ => ?_) | refine g_eff0 (e_storeN rfl rfl (by rfl) (by rfl) (by rfl) (by repeat' (first | exact Take.here | apply Take.there)) (by simp)) (fun _ _ => ?_)
          rintro rfl
          refine g_pure (p_assign rfl) rfl ?_
          refine g_nil ?_
          refine g_qt ?_
          refine g_ret ?_
          refine g_qt_ret ?_
          exact g_post (rs := [.cell 4 25, .tmp 5]) rfl (Res.cellN (by rfl) rfl (Has.own (by repeat' (first | exact Take.here | apply Take.there))) (by rfl) (.tmp rfl .nil)) ⟨_, _, _, rfl, fin_dsingle hg hn hne hfull h0 ea ec hn12 h3 hu, rfl⟩ (by repeat' (first | exact Cover.nil | exact Take.here | apply Cover.cons | apply Take.there))
        · refine g_own (e := 25) (a1 := pa) (k := args.length) (cap := pc) (by repeat' (first | exact Take.here | apply Take.there)) (fun _ e2 _ _ => by omega) (fun g cur e1 hc1 hc2 hc3 hc4 hc5 => ?_)
          subst e1
          have hla : ((args.map (cutS op))).length = args.length := by simp
          obtain ⟨y0, _, _⟩ := cell_at (cur_has hc4) (k := 0) (by omega)
          obtain ⟨z0, _, _⟩ := cell_at (cur_has hc4) (k := args.length - 1) (by omega)
          rw [List.getElem_map, ea] at y0
          rw [List.getElem_map, ec] at z0
          have y0' : sub cur (0 + (0 : Int).toNat * 2) 2 = some [.int .i64 a1, .int .i64 a2] := y0
          have z0' : sub cur (0 + ((args.length : Int) - 1).toNat * 2) 2 = some [.int .i64 c1, .int .i64 c2] := by
            rw [show ((args.length : Int) - 1).toNat = args.length - 1 by omega]; exact z0
          refine g_skip ?_
          refine g_qt ?_
          refine g_seq ?_
          refine m_begin0 (.fl 0 0 (.fl 1 0 (.fl 2 0 (.fl 3 1 (.fl 4 0 (.fl 5 0 (.fl 6 0 (.fl 7 0 (.fl 8 0 (.fl 9 1 (.ef 10 (.ef 11 (.fl 12 0 .done))))))))))))) (by kernel_rfl) (by kernel_rfl) ?_
          refine m_float0 rfl (fun _ _ => p_move rfl) rfl ?_
          refine m_float0 rfl (fun _ _ => p_move rfl) rfl ?_
          refine m_float0 rfl (fun _ _ => p_indexAddr rfl rfl (by omega) (by first | exact fun _ => rfl | assumption)) rfl ?_
          refine m_float rfl (p_loadN (by rfl) rfl (Has.own (by repeat' (first | exact Take.here | apply Take.there))) y0') rfl ?_
          refine m_float0 rfl (fun _ _ => p_move rfl) rfl ?_
          refine m_float0 rfl (fun _ _ => p_move rfl) rfl ?_
          refine m_float0 rfl (fun _ _ => p_len (by rfl) rfl) rfl ?_
          first | refine m_float0 rfl (fun _ _ => p_subi rfl rfl (by omega)) rfl ?_ | refine m_float0 rfl (fun _ _ => p_sub rfl rfl) rfl ?_
          refine m_float0 rfl (fun _ _ => p_indexAddr rfl rfl (by omega) (by first | exact fun _ => rfl | assumption)) rfl ?_
          refine m_float rfl (p_loadN (by rfl) rfl (Has.own (by repeat' (first | exact Take.here | apply Take.there))) z0') rfl ?_
          refine m_call (Hin := []) (Hr := ?hr9) (R := ?rr9) rfl wantedN rfl rfl rfl ?hin9 ?hc9 ?hk9
          case hin9 => repeat' (first | exact Cover.nil | exact Take.here | apply Cover.cons | apply Take.there)
          case hc9 => intro ρ' hρ hR; exact dscompute_ok hopn
          rintro _ _ ⟨u1, u2, rfl, hu, rfl⟩
          refine ⟨.none (by kernel_rfl), ?_⟩
          first | refine m_eff0 rfl (e_storeO rfl rfl (by rfl) (by rfl) (by rfl) (by repeat' (first | exact Take.here | apply Take.there)) (by rfl)) (fun _ _ => ?_) | refine m_eff0 rfl (e_storeN rfl rfl (by rfl) (by rfl) (by rfl) (by repeat' (first | exact Take.here | apply Take.there)) (by simp)) (fun _ _ => ?_)
          rintro rfl
          refine ⟨.none (by kernel_rfl), ?_⟩
          refine m_float0 rfl (fun _ _ => p_assign rfl) rfl ?_
          refine m_nil ?_
          refine g_qt ?_
          refine g_ret ?_
          exact g_post (rs := [.cell 4 25, .tmp 5]) rfl (Res.cellN (by rfl) rfl (Has.own (by repeat' (first | exact Take.here | apply Take.there))) (by rfl) (.tmp rfl .nil)) ⟨_, _, _, rfl, fin_dcomp hfull h0 ea ec hn12 (by simpa using h3) hu, rfl⟩ (by repeat' (first | exact Cover.nil | exact Take.here | apply Cover.cons | apply Take.there))
end Go.Proofs.Ytlcipnligbjclaa
