/- Own texts, put together: Pa Pb Pc Pd Pe Pf Pg Ph Pi Pj Pk. Conditions: as told at each. -/
import Derived.Test.YtcnfcoojmbjdlaaGreatDoorMAsQ2
import Derived.Test.YtcnfcoojmbjdlaaGreatDoorRows
import Derived.Lib.LaidTab
import Derived.LaidLaws
import Derived.OpenShut
import Derived.Stop.LaidErr
import Derived.HandedShaped
import Derived.Shelf.Vars
import Derived.Lib.LaidIn
import Derived.Handed
import Derived.Test.YtcnfcoojmbjdlaaGreatDoorMAsQ0
import Derived.Test.YtcnfcoojmbjdlaaGreatDoorHq
/- Chapter 26: reading a text that has an error: a routine, the whole. Conditions: what the library's variables hold (LibA). -/
namespace Go.Proofs.YtcnfcoojmbjdlaaGreatDoor
set_option maxRecDepth 8000
set_option linter.unusedVariables false
set_option linter.unusedSimpArgs false
set_option linter.unusedSectionVars false
open Go Go.Z Go.Z.Asm Go.RowKit Go.Z.Txt

set_option maxHeartbeats 400000 in
theorem routE_gen {ρ : Nat → Obj → Prop} {RD : RS → Assn} {p lb : Nat} {ls : List (List UInt8)} (hRD : RD = Rd 73 p lb ls.length) (hk : LibA ρ) (hL : Lns ρ lb ls) (s : RS) (hs : s.1 < ls.length) (he : (foreS ls s).2 ≠ 0) :
    Con Tryz.prog ρ 52 #[.pointer (some ⟨p, 0, none⟩)] [RD s]
    (fun v H => ∃ (nm : ByteArray) (ia oa na : Option Addr) (il ic ol oc nl nc : Nat) (rg : Int), v = .agg #[.string nm, .slice ia il ic, .slice oa ol oc, .int .i64 rg, .slice na nl nc, .slice none 0 0] ∧ H = [RD (foreS ls s)]) := by
  have hll := hL.len
  have hne := nextS_ne ls s
  have hat := nextS_at ls s
  obtain ⟨hw1, hw2⟩ := nextS_words (s := s) hL.each
  have hhl := headS_lt hs
  have l1 := listS_lt inB (-1) hhl
  have l2 := listS_lt outW (-1) l1
  have l3 := listS_lt regsW 1 l2
  have l4 := listS_lt initW (-1) l3
  have hhd : headS ls s = doneS (if (nextS ls s).1.headD [] ≠ routW ∨ (nextS ls s).1.length ≠ 2 then failS 5 (nextS ls s).2 else (nextS ls s).2) := rfl
  have hfo : foreS ls s = listS ls initW (-1) (listS ls regsW 1 (listS ls outW (-1) (listS ls inB (-1) (headS ls s)))) := rfl
  rw [hfo] at he ⊢
  have cN : ∀ {ρ' : Nat → Obj → Prop}, (∀ b o, ρ b o → ρ' b o) → Con Tryz.prog ρ' 73 #[.pointer (some ⟨p, 0, none⟩)] [RD s] (fun v H => ∃ wb : Nat, v = .slice (some ⟨wb, 0, none⟩) (nextS ls s).1.length (nextS ls s).1.length ∧ H = [Blk wb (.cells ((nextS ls s).1.map strV).toArray 9 (0, 0)), RD (nextS ls s).2]) := fun {ρ'} hρ => by
    have := next_ok (hk.mono hρ) (hL.mono hρ) p s hs
    rw [← hRD] at this; exact this
  have cF : ∀ (ρ' : Nat → Obj → Prop) (t : RS) (x : Int), Con Tryz.prog ρ' 74 #[.pointer (some ⟨p, 0, none⟩), .int .i64 x] [RD t] (fun v H => v = .tuple #[] ∧ H = [RD (failS x t)]) := fun ρ' t x => by
    have := fail_ok (ρ := ρ') p lb ls.length t x
    rw [← hRD] at this; exact this
  have cD : ∀ (ρ' : Nat → Obj → Prop) (t : RS), t.1 ≤ 4611686018427387904 → Con Tryz.prog ρ' 76 #[.pointer (some ⟨p, 0, none⟩)] [RD t] (fun v H => v = .tuple #[] ∧ H = [RD (doneS t)]) := fun ρ' t h => by
    have := done_ok (ρ := ρ') p lb ls.length t h
    rw [← hRD] at this; exact this
  have cL : ∀ {ρ' : Nat → Obj → Prop}, (∀ b o, ρ b o → ρ' b o) → ∀ (t : RS), t.1 < ls.length → ∀ (word : List UInt8) (many : Int) (u : RS), listS ls word many t = u → Con Tryz.prog ρ' 50 #[.pointer (some ⟨p, 0, none⟩), .string (strB word), .int .i64 many] [RD t]
      (fun v H => ∃ oa oc, ∃ out : List Int, v = .slice oa out.length oc ∧ H = [OwnSl 3 1 oa out.length oc (out.map encI), RD u]) := fun {ρ'} hρ t ht word many u hu => by
    have := list_ok (hk.mono hρ) (hL.mono hρ) p t ht word many
    rw [← hRD, hu] at this
    exact this.mono fun v H ⟨oa, oc, out, h1, _, _, h2⟩ => ⟨oa, oc, out, h1, h2⟩
  have cI : ∀ {ρ' : Nat → Obj → Prop}, (∀ b o, ρ b o → ρ' b o) → ∀ (t : RS), t.1 < ls.length → t.2 ≠ 0 → Con Tryz.prog ρ' 77 #[.pointer (some ⟨p, 0, none⟩)] [RD t] (fun v H => v = .tuple #[.agg #[.int .i64 0, .int .i64 0, .int .i64 0, .int .i64 0, .int .i64 0], .bool false] ∧ H = [RD t]) := fun {ρ'} hρ t ht h0 => by
    have := insE_ok (hk.mono hρ) (hL.mono hρ) p t ht h0
    rw [← hRD] at this; exact this
  refine con_intro Tryz.func52 Tryz.call52 rfl Tryz.ntmps52 rfl (L := [(0, _)]) rfl fun w hh => ?_
  refine g_seq ?_
  refine g_region ?_
  refine g_eff (e_alloc (by rfl)) rfl (fun _ _ => ?_)
  rintro ⟨b2, rfl, rfl⟩
  refine g_nil ?_
  refine g_qt ?_
  refine g_seq ?_
  refine g_region ?_
  refine g_pure (p_move rfl) rfl ?_
  refine g_call (Hin := [RD s]) (Hr := ?hr1) (R := ?rr1) rfl rfl rfl ?hin1 ?hc1 ?hk1
  case hin1 => repeat' (first | exact Cover.nil | exact Take.here | apply Cover.cons | apply Take.there)
  case hc1 => intro ρ' hρ hR; exact cN hρ
  rintro _ _ ⟨wb, rfl, rfl⟩
  generalize nextS ls s = N at hne hat hw1 hw2 hhd ⊢
  obtain ⟨W, s1⟩ := N
  dsimp only at hne hat hw1 hw2 hhd ⊢
  match W, hne with
  | w0 :: W, _ =>
  rw [List.headD_cons] at hhd
  refine g_pure (p_assign rfl) rfl ?_
  refine g_nil ?_
  refine g_qt ?_
  refine g_seq ?_
  refine g_join (fun _ : Unit => [(0, .pointer (some ⟨p, 0, none⟩)), (2, .pointer (some ⟨b2, 0, none⟩)), (3, .slice (some ⟨wb, 0, none⟩) (w0 :: W).length (w0 :: W).length)]) (fun _ => [Blk wb (.cells ((w0 :: W).map strV).toArray 9 (0, 0)), RD (if w0 ≠ routW ∨ (w0 :: W).length ≠ 2 then failS 5 s1 else s1), Blk b2 (.cells [.string ⟨#[]⟩, .slice none 0 0, .slice none 0 0, .int .i64 0, .slice none 0 0, .slice none 0 0].toArray 45 (0, 0))]) (fun _ => True) ?_ ?_
  · refine g_seq ?_
    refine g_region ?_
    refine g_pure (p_move rfl) rfl ?_
    refine g_pure (p_indexAddr rfl rfl (by simp) (fun _ => rfl)) rfl ?_
    refine g_pure (p_load (v := .string (strB w0)) (by rfl) rfl (Has.own (by repeat' (first | exact Take.here | apply Take.there))) (by rfl)) rfl ?_
    refine g_pure (p_neqs (i := strB w0) (j := strB routW) (by rfl) rfl rfl) rfl ?_
    refine g_pure (p_move rfl) rfl ?_
    refine g_splitnd rfl rfl (fun h1 => ?_) (fun h1 => ?_)
    · refine g_no rfl rfl rfl rfl ?_
      refine g_no rfl rfl rfl rfl ?_
      refine g_no rfl rfl rfl rfl ?_
      first | refine g_pure (p_pickt rfl rfl) rfl ?_ | refine g_pure (p_pickf rfl rfl) rfl ?_
      refine g_nil ?_
      refine g_qt ?_
      refine g_ift rfl ?_
      refine g_region ?_
      refine g_pure (p_move rfl) rfl ?_
      refine g_call (Hin := [RD s1]) (Hr := ?hr2) (R := ?rr2) rfl rfl rfl ?hin2 ?hc2 ?hk2
      case hin2 => repeat' (first | exact Cover.nil | exact Take.here | apply Cover.cons | apply Take.there)
      case hc2 => intro ρ' hρ hR; exact cF ρ' s1 5
      rintro _ _ ⟨rfl, rfl⟩
      refine g_nil ?_
      refine g_qn ?_
      first | (rw [if_pos (show w0 ≠ routW ∨ (w0 :: W).length ≠ 2 from by first | (refine .inl (fun h => ?_); have h9 := strB_inj.2 h; contradiction) | (refine .inr ?_; omega))]; exact g_joined () (by (repeat (first | exact trivial | refine ⟨by rfl, ?_⟩)); done) (by repeat' (first | exact Cover.nil | exact Take.here | apply Cover.cons | apply Take.there)) trivial) | (rw [if_neg (fun h : w0 ≠ routW ∨ (w0 :: W).length ≠ 2 => by rcases h with h | h; exact h (strB_inj.1 (by assumption)); omega)]; exact g_joined () (by (repeat (first | exact trivial | refine ⟨by rfl, ?_⟩)); done) (by repeat' (first | exact Cover.nil | exact Take.here | apply Cover.cons | apply Take.there)) trivial)
    · refine g_yes rfl rfl ?_
      refine g_pure (p_move rfl) rfl ?_
      refine g_yes rfl rfl ?_
      refine g_pure (p_len (by rfl) rfl) rfl ?_
      refine g_yes rfl rfl ?_
      refine g_pure (p_neq rfl rfl) rfl ?_
      first | refine g_pure (p_pickt rfl rfl) rfl ?_ | refine g_pure (p_pickf rfl rfl) rfl ?_
      refine g_nil ?_
      refine g_qt ?_
      refine g_ifndL rfl (fun h3 => ?_) (fun h3 => ?_)
      · refine g_region ?_
        refine g_pure (p_move rfl) rfl ?_
        refine g_call (Hin := [RD s1]) (Hr := ?hr3) (R := ?rr3) rfl rfl rfl ?hin3 ?hc3 ?hk3
        case hin3 => repeat' (first | exact Cover.nil | exact Take.here | apply Cover.cons | apply Take.there)
        case hc3 => intro ρ' hρ hR; exact cF ρ' s1 5
        rintro _ _ ⟨rfl, rfl⟩
        refine g_nil ?_
        refine g_qn ?_
        first | (rw [if_pos (show w0 ≠ routW ∨ (w0 :: W).length ≠ 2 from by first | (refine .inl (fun h => ?_); have h9 := strB_inj.2 h; contradiction) | (refine .inr ?_; omega))]; exact g_joined () (by (repeat (first | exact trivial | refine ⟨by rfl, ?_⟩)); done) (by repeat' (first | exact Cover.nil | exact Take.here | apply Cover.cons | apply Take.there)) trivial) | (rw [if_neg (fun h : w0 ≠ routW ∨ (w0 :: W).length ≠ 2 => by rcases h with h | h; exact h (strB_inj.1 (by assumption)); omega)]; exact g_joined () (by (repeat (first | exact trivial | refine ⟨by rfl, ?_⟩)); done) (by repeat' (first | exact Cover.nil | exact Take.here | apply Cover.cons | apply Take.there)) trivial)
      · refine g_skip ?_
        refine g_qn ?_
        first | (rw [if_pos (show w0 ≠ routW ∨ (w0 :: W).length ≠ 2 from by first | (refine .inl (fun h => ?_); have h9 := strB_inj.2 h; contradiction) | (refine .inr ?_; omega))]; exact g_joined () (by (repeat (first | exact trivial | refine ⟨by rfl, ?_⟩)); done) (by repeat' (first | exact Cover.nil | exact Take.here | apply Cover.cons | apply Take.there)) trivial) | (rw [if_neg (fun h : w0 ≠ routW ∨ (w0 :: W).length ≠ 2 => by rcases h with h | h; exact h (strB_inj.1 (by assumption)); omega)]; exact g_joined () (by (repeat (first | exact trivial | refine ⟨by rfl, ?_⟩)); done) (by repeat' (first | exact Cover.nil | exact Take.here | apply Cover.cons | apply Take.there)) trivial)
  rintro _ -
  refine g_qt ?_
  have hat2 : (if w0 ≠ routW ∨ (w0 :: W).length ≠ 2 then failS 5 s1 else s1).1 = s.1 := by split <;> exact hat
  generalize (if w0 ≠ routW ∨ (w0 :: W).length ≠ 2 then failS 5 s1 else s1) = s2 at hat2 hhd ⊢
  refine g_seq ?_
  refine g_region ?_
  refine g_pure (p_move rfl) rfl ?_
  refine g_call (Hin := [RD s2]) (Hr := ?hr4) (R := ?rr4) rfl rfl rfl ?hin4 ?hc4 ?hk4
  case hin4 => repeat' (first | exact Cover.nil | exact Take.here | apply Cover.cons | apply Take.there)
  case hc4 => intro ρ' hρ hR; exact cD ρ' s2 (by omega)
  rintro _ _ ⟨rfl, rfl⟩
  rw [← hhd]
  obtain ⟨wl, hwl⟩ : ∃ wl, ((w0 :: W).map strV)[(w0 :: W).length - 1]? = some (.string (strB wl)) := ⟨(w0 :: W)[(w0 :: W).length - 1]'(by simp), by rw [List.getElem?_map, List.getElem?_eq_getElem (by simp)]; rfl⟩
  generalize hs3 : headS ls s = s3 at hhl l1 l2 l3 l4 he ⊢
  generalize hs4 : listS ls inB (-1) s3 = s4 at l1 l2 l3 l4 he ⊢
  generalize hs5 : listS ls outW (-1) s4 = s5 at l2 l3 l4 he ⊢
  generalize hs6 : listS ls regsW 1 s5 = s6 at l3 l4 he ⊢
  generalize hs7 : listS ls initW (-1) s6 = s7 at l4 he ⊢
  refine g_nil ?_
  refine g_qt ?_
  refine g_seq ?_
  refine g_join (fun y : Nat × (Option Addr × Nat × Nat) × (Option Addr × Nat × Nat) => [(0, .pointer (some ⟨p, 0, none⟩)), (2, .pointer (some ⟨b2, 0, none⟩)), (4, .pointer (some ⟨y.1, 0, none⟩))])
    (fun y => [Blk y.1 (.cells [.string (strB wl), .slice y.2.1.1 y.2.1.2.1 y.2.1.2.2, .slice y.2.2.1 y.2.2.2.1 y.2.2.2.2, .int .i64 0, .slice none 0 0, .slice none 0 0].toArray 45 (0, 0)), RD s5, Blk b2 (.cells [.string ⟨#[]⟩, .slice none 0 0, .slice none 0 0, .int .i64 0, .slice none 0 0, .slice none 0 0].toArray 45 (0, 0))]) (fun _ => True) ?_ ?_
  · refine m_begin (.fl 0 0 (.fl 1 0 (.fl 2 0 (.fl 3 0 (.fl 4 0 (.fl 5 1 (.fl 6 0 (.fl 8 0 (.or (.ef 7 (.or (.ef 9 (.fl 10 0 (.ef 11 (.ef 12 .done)))) (.ef 11 (.ef 9 (.fl 10 0 (.ef 12 .done)))))) (.ef 11 (.ef 7 (.ef 9 (.fl 10 0 (.ef 12 .done)))))))))))))) [Blk wb (.cells ((w0 :: W).map strV).toArray 9 (0, 0)), Blk b2 (.cells [.string ⟨#[]⟩, .slice none 0 0, .slice none 0 0, .int .i64 0, .slice none 0 0, .slice none 0 0].toArray 45 (0, 0))] (by kernel_rfl) (by kernel_rfl) (by repeat' (first | exact Cover.nil | exact Take.here | apply Cover.cons | apply Take.there)) ?_
    refine m_float0 rfl (fun _ _ => p_move rfl) rfl ?_
    refine m_float0 rfl (fun _ _ => p_move rfl) rfl ?_
    refine m_float0 rfl (fun _ _ => p_len (by rfl) rfl) rfl ?_
    first | refine m_float0 rfl (fun _ _ => p_subi rfl rfl (by omega)) rfl ?_ | refine m_float0 rfl (fun _ _ => p_sub rfl rfl) rfl ?_
    refine m_float0 rfl (fun _ _ => p_indexAddr rfl rfl (by simp; omega) (fun _ => rfl)) rfl ?_
    refine m_float rfl (p_load (v := .string (strB wl)) (by rfl) rfl (Has.own (by repeat' (first | exact Take.here | apply Take.there))) (by rw [← hwl]; congr 1; simp)) rfl ?_
    refine m_float0 rfl (fun _ _ => p_move rfl) rfl ?_
    refine m_float0 rfl (fun _ _ => p_move rfl) rfl ?_
    refine m_or ?_ ?_
    · refine m_call (Hin := [RD s3]) (Hr := ?hr5) (R := ?rr5) rfl wantedN rfl rfl rfl ?hin5 ?hc5 ?hk5
      case hin5 => repeat' (first | exact Cover.nil | exact Take.here | apply Cover.cons | apply Take.there)
      case hc5 => intro ρ' hρ hR; exact cL hρ s3 hhl inB (-1) s4 hs4
      rintro _ _ ⟨a31, c31, out31, rfl, rfl⟩
      refine ⟨.some (by repeat' (first | exact Cover.nil | exact Take.here | apply Cover.cons | apply Take.there)), ?_⟩
      refine m_or ?_ ?_
      · refine m_call (Hin := [RD s4]) (Hr := ?hr6) (R := ?rr6) rfl wantedN rfl rfl rfl ?hin6 ?hc6 ?hk6
        case hin6 => repeat' (first | exact Cover.nil | exact Take.here | apply Cover.cons | apply Take.there)
        case hc6 => intro ρ' hρ hR; exact cL hρ s4 l1 outW (-1) s5 hs5
        rintro _ _ ⟨a33, c33, out33, rfl, rfl⟩
        refine ⟨.some (by repeat' (first | exact Cover.nil | exact Take.here | apply Cover.cons | apply Take.there)), ?_⟩
        refine m_float0 rfl (fun _ _ => p_build (by rfl) rfl (by rfl)) rfl ?_
        refine m_eff rfl (e_alloc (by rfl)) rfl (fun _ _ => ?_)
        rintro ⟨b4, rfl, rfl⟩
        refine ⟨.some (by repeat' (first | exact Cover.nil | exact Take.here | apply Cover.cons | apply Take.there)), ?_⟩
        first | refine m_eff0 rfl (e_storeO rfl rfl (by rfl) (by rfl) (by rfl) (by repeat' (first | exact Take.here | apply Take.there)) (by rfl)) (fun _ _ => ?_) | refine m_eff0 rfl (e_storeN rfl rfl (by rfl) (by rfl) (by rfl) (by repeat' (first | exact Take.here | apply Take.there)) (by simp)) (fun _ _ => ?_)
        rintro rfl
        refine ⟨.none (by kernel_rfl), ?_⟩
        refine m_nil ?_
        refine g_qn ?_
        exact g_joined (b4, (a31, out31.length, c31), (a33, out33.length, c33)) (by (repeat (first | exact trivial | refine ⟨by rfl, ?_⟩)); done) (by repeat' (first | exact Cover.nil | exact Take.here | apply Cover.cons | apply Take.there)) trivial
      refine m_eff rfl (e_alloc (by rfl)) rfl (fun _ _ => ?_)
      rintro ⟨b4, rfl, rfl⟩
      refine ⟨.some (by repeat' (first | exact Cover.nil | exact Take.here | apply Cover.cons | apply Take.there)), ?_⟩
      refine m_call (Hin := [RD s4]) (Hr := ?hr7) (R := ?rr7) rfl wantedN rfl rfl rfl ?hin7 ?hc7 ?hk7
      case hin7 => repeat' (first | exact Cover.nil | exact Take.here | apply Cover.cons | apply Take.there)
      case hc7 => intro ρ' hρ hR; exact cL hρ s4 l1 outW (-1) s5 hs5
      rintro _ _ ⟨a33, c33, out33, rfl, rfl⟩
      refine ⟨.some (by repeat' (first | exact Cover.nil | exact Take.here | apply Cover.cons | apply Take.there)), ?_⟩
      refine m_float0 rfl (fun _ _ => p_build (by rfl) rfl (by rfl)) rfl ?_
      first | refine m_eff0 rfl (e_storeO rfl rfl (by rfl) (by rfl) (by rfl) (by repeat' (first | exact Take.here | apply Take.there)) (by rfl)) (fun _ _ => ?_) | refine m_eff0 rfl (e_storeN rfl rfl (by rfl) (by rfl) (by rfl) (by repeat' (first | exact Take.here | apply Take.there)) (by simp)) (fun _ _ => ?_)
      rintro rfl
      refine ⟨.none (by kernel_rfl), ?_⟩
      refine m_nil ?_
      refine g_qn ?_
      exact g_joined (b4, (a31, out31.length, c31), (a33, out33.length, c33)) (by (repeat (first | exact trivial | refine ⟨by rfl, ?_⟩)); done) (by repeat' (first | exact Cover.nil | exact Take.here | apply Cover.cons | apply Take.there)) trivial
    refine m_eff rfl (e_alloc (by rfl)) rfl (fun _ _ => ?_)
    rintro ⟨b4, rfl, rfl⟩
    refine ⟨.some (by repeat' (first | exact Cover.nil | exact Take.here | apply Cover.cons | apply Take.there)), ?_⟩
    refine m_call (Hin := [RD s3]) (Hr := ?hr8) (R := ?rr8) rfl wantedN rfl rfl rfl ?hin8 ?hc8 ?hk8
    case hin8 => repeat' (first | exact Cover.nil | exact Take.here | apply Cover.cons | apply Take.there)
    case hc8 => intro ρ' hρ hR; exact cL hρ s3 hhl inB (-1) s4 hs4
    rintro _ _ ⟨a31, c31, out31, rfl, rfl⟩
    refine ⟨.some (by repeat' (first | exact Cover.nil | exact Take.here | apply Cover.cons | apply Take.there)), ?_⟩
    refine m_call (Hin := [RD s4]) (Hr := ?hr9) (R := ?rr9) rfl wantedN rfl rfl rfl ?hin9 ?hc9 ?hk9
    case hin9 => repeat' (first | exact Cover.nil | exact Take.here | apply Cover.cons | apply Take.there)
    case hc9 => intro ρ' hρ hR; exact cL hρ s4 l1 outW (-1) s5 hs5
    rintro _ _ ⟨a33, c33, out33, rfl, rfl⟩
    refine ⟨.some (by repeat' (first | exact Cover.nil | exact Take.here | apply Cover.cons | apply Take.there)), ?_⟩
    refine m_float0 rfl (fun _ _ => p_build (by rfl) rfl (by rfl)) rfl ?_
    first | refine m_eff0 rfl (e_storeO rfl rfl (by rfl) (by rfl) (by rfl) (by repeat' (first | exact Take.here | apply Take.there)) (by rfl)) (fun _ _ => ?_) | refine m_eff0 rfl (e_storeN rfl rfl (by rfl) (by rfl) (by rfl) (by repeat' (first | exact Take.here | apply Take.there)) (by simp)) (fun _ _ => ?_)
    rintro rfl
    refine ⟨.none (by kernel_rfl), ?_⟩
    refine m_nil ?_
    refine g_qn ?_
    exact g_joined (b4, (a31, out31.length, c31), (a33, out33.length, c33)) (by (repeat (first | exact trivial | refine ⟨by rfl, ?_⟩)); done) (by repeat' (first | exact Cover.nil | exact Take.here | apply Cover.cons | apply Take.there)) trivial
  rintro ⟨b4, ⟨a31, n31, c31⟩, ⟨a33, n33, c33⟩⟩ -
  dsimp only
  refine g_qt ?_
  refine g_seq ?_
  refine g_seq ?_
  refine g_region ?_
  refine g_pure (p_move rfl) rfl ?_
  refine g_call (Hin := [RD s5]) (Hr := ?hr10) (R := ?rr10) rfl rfl rfl ?hin10 ?hc10 ?hk10
  case hin10 => repeat' (first | exact Cover.nil | exact Take.here | apply Cover.cons | apply Take.there)
  case hc10 => intro ρ' hρ hR; exact cL hρ s5 l2 regsW 1 s6 hs6
  rintro _ _ ⟨a36, c36, out36, rfl, rfl⟩
  refine g_pure (p_len (by rfl) rfl) rfl ?_
  refine g_pure (p_move rfl) rfl ?_
  refine g_nil ?_
  refine g_qt ?_
  refine g_block ?_
  refine g_loop (fun q : Nat × Int => [(0, .pointer (some ⟨p, 0, none⟩)), (2, .pointer (some ⟨b2, 0, none⟩)), (4, .pointer (some ⟨b4, 0, none⟩)), (36, .slice a36 out36.length c36), (37, .int .i64 out36.length), (38, .int .i64 q.1)])
    (fun q => [OwnSl 3 1 a36 out36.length c36 (out36.map encI), Blk b4 (.cells [.string (strB wl), .slice a31 n31 c31, .slice a33 n33 c33, .int .i64 q.2, .slice none 0 0, .slice none 0 0].toArray 45 (0, 0)), RD s6, Blk b2 (.cells [.string ⟨#[]⟩, .slice none 0 0, .slice none 0 0, .int .i64 0, .slice none 0 0, .slice none 0 0].toArray 45 (0, 0))])
    (fun q => q.1 ≤ out36.length) (fun q => out36.length - q.1) (0, 0) (Nat.zero_le _) (by (repeat (first | exact trivial | refine ⟨by rfl, ?_⟩)); done) (by repeat' (first | exact Cover.nil | exact Take.here | apply Cover.cons | apply Take.there)) ?_
  rintro ⟨k, z⟩ hk1
  dsimp only at hk1 ⊢
  have hol : out36.length ≤ 4294967296 ∨ True := .inr trivial
  refine g_seq ?_
  refine g_region ?_
  refine g_pure (p_lss rfl rfl) rfl ?_
  refine g_nil ?_
  refine g_qt ?_
  refine g_seq ?_
  refine g_ifd rfl (fun q => ?_) (fun q => ?_)
  · have hkl : k < out36.length := by omega
    have hx := mapI2 out36 hkl
    refine g_own (e := 3) (size := 1) (a1 := a36) (k := out36.length) (cap := c36) (xs := out36.map encI) (by repeat' (first | exact Take.here | apply Take.there)) (fun _ h _ _ => absurd h (by omega)) ?_
    rintro g cur rfl hc1 hc2 hcl htk hxl
    refine g_skip ?_
    refine g_qt ?_
    refine g_seq ?_
    refine g_block ?_
    refine g_seq ?_
    refine g_region ?_
    refine g_pure (p_indexAddr rfl rfl (by omega) (fun _ => rfl)) rfl ?_
    refine g_pure (p_load (v := .int .i64 out36[k]) (by rfl) rfl (Has.own (by repeat' (first | exact Take.here | apply Take.there))) (own_at (k := k) htk (by show 0 + (k : Int).toNat * 1 = _; omega) hx)) rfl ?_
    refine g_pure (p_assign rfl) rfl ?_
    refine g_nil ?_
    refine g_qt ?_
    refine g_region ?_
    refine g_pure (p_move rfl) rfl ?_
    refine g_pure (p_fieldAddr rfl) rfl ?_
    first | refine g_eff0 (e_storeO rfl rfl (by rfl) (by rfl) (by rfl) (by repeat' (first | exact Take.here | apply Take.there)) (by rfl)) (fun _ _ => ?_) | refine g_eff0 (e_store1 (by rfl) rfl rfl rfl (by repeat' (first | exact Take.here | apply Take.there)) (by first | decide | (simp <;> omega) | omega)) (fun _ _ => ?_)
    rintro rfl
    refine g_nil ?_
    refine g_qb ?_
    refine g_qt ?_
    refine g_region ?_
    first | refine g_pure (p_addi rfl rfl (by omega)) rfl ?_ | refine g_pure (p_add rfl rfl) rfl ?_
    refine g_pure (p_move rfl) rfl ?_
    refine g_nil ?_
    refine g_qn ?_
    refine g_fold (e := 3) (size := 1) (g := g) (k := out36.length) (cap := c36) (cur := cur) (xs := out36.map encI) (by repeat' (first | exact Take.here | apply Take.there)) hc1 hc2 hcl htk ?_
    exact g_next (k + 1, out36[k]) (by (repeat (first | exact trivial | refine ⟨by rfl, ?_⟩)); done) (by repeat' (first | exact Cover.nil | exact Take.here | apply Cover.cons | apply Take.there)) hkl (by dsimp only; omega)
  · refine g_exit ?_
    refine g_qt_exit ?_
    refine g_qn_exit ?_
    refine g_qb_exit ?_
    refine g_qt ?_
    refine g_seq ?_
    refine g_region ?_
    refine g_pure (p_move rfl) rfl ?_
    refine g_call (Hin := [RD s6]) (Hr := ?hr11) (R := ?rr11) rfl rfl rfl ?hin11 ?hc11 ?hk11
    case hin11 => repeat' (first | exact Cover.nil | exact Take.here | apply Cover.cons | apply Take.there)
    case hc11 => intro ρ' hρ hR; exact cL hρ s6 l3 initW (-1) s7 hs7
    rintro _ _ ⟨a46, c46, out46, rfl, rfl⟩
    refine g_pure (p_fieldAddr rfl) rfl ?_
    first | refine g_eff0 (e_storeO rfl rfl (by rfl) (by rfl) (by rfl) (by repeat' (first | exact Take.here | apply Take.there)) (by rfl)) (fun _ _ => ?_) | refine g_eff0 (e_store1 (by rfl) rfl rfl rfl (by repeat' (first | exact Take.here | apply Take.there)) (by first | decide | (simp <;> omega) | omega)) (fun _ _ => ?_)
    rintro rfl
    refine g_nil ?_
    refine g_qt ?_
    refine g_block ?_
    refine g_loop (fun _ : Unit => [(0, .pointer (some ⟨p, 0, none⟩)), (2, .pointer (some ⟨b2, 0, none⟩)), (4, .pointer (some ⟨b4, 0, none⟩))])
      (fun _ => [Blk b4 (.cells [.string (strB wl), .slice a31 n31 c31, .slice a33 n33 c33, .int .i64 z, .slice a46 out46.length c46, .slice none 0 0].toArray 45 (0, 0)), RD s7, Blk b2 (.cells [.string ⟨#[]⟩, .slice none 0 0, .slice none 0 0, .int .i64 0, .slice none 0 0, .slice none 0 0].toArray 45 (0, 0))])
      (fun _ => True) (fun _ => 0) () trivial (by (repeat (first | exact trivial | refine ⟨by rfl, ?_⟩)); done) (by repeat' (first | exact Cover.nil | exact Take.here | apply Cover.cons | apply Take.there)) ?_
    rintro _ -
    refine g_block ?_
    refine g_seq ?_
    refine g_region ?_
    refine g_pure (p_move rfl) rfl ?_
    refine g_call (Hin := [RD s7]) (Hr := ?hr12) (R := ?rr12) rfl rfl rfl ?hin12 ?hc12 ?hk12
    case hin12 => repeat' (first | exact Cover.nil | exact Take.here | apply Cover.cons | apply Take.there)
    case hc12 => intro ρ' hρ hR; exact cI hρ s7 l4 he
    rintro _ _ ⟨rfl, rfl⟩
    refine g_pure (p_move rfl) rfl ?_
    refine g_pure (p_extract rfl rfl) rfl ?_
    refine g_pure (p_extract rfl rfl) rfl ?_
    refine g_eff (e_alloc (by rfl)) rfl (fun _ _ => ?_)
    rintro ⟨b7, rfl, rfl⟩
    first | refine g_eff0 (e_storeO rfl rfl (by rfl) (by rfl) (by rfl) (by repeat' (first | exact Take.here | apply Take.there)) (by rfl)) (fun _ _ => ?_) | refine g_eff0 (e_storeN rfl rfl (by rfl) (by rfl) (by rfl) (by repeat' (first | exact Take.here | apply Take.there)) (by simp)) (fun _ _ => ?_)
    rintro rfl
    refine g_pure (p_assign rfl) rfl ?_
    refine g_nil ?_
    refine g_qt ?_
    refine g_seq ?_
    refine g_seq ?_
    refine g_region ?_
    refine g_pure (p_move rfl) rfl ?_
    refine g_pure (p_not rfl) rfl ?_
    refine g_nil ?_
    refine g_qt ?_
    refine g_ift rfl ?_
    refine g_seq ?_
    refine g_region ?_
    first | refine g_pure (p_loadO (by rfl) rfl (by first | (apply Has.own; (repeat' (first | exact Take.here | apply Take.there)); done) | exact Has.ro (by assumption)) (by rfl)) rfl ?_ | refine g_pure (p_loadN (by rfl) rfl (by first | (apply Has.own; (repeat' (first | exact Take.here | apply Take.there)); done) | exact Has.ro (by assumption)) (by first | rfl | assumption)) rfl ?_
    first | refine g_eff0 (e_storeO rfl rfl (by rfl) (by rfl) (by rfl) (by repeat' (first | exact Take.here | apply Take.there)) (by rfl)) (fun _ _ => ?_) | refine g_eff0 (e_storeN rfl rfl (by rfl) (by rfl) (by rfl) (by repeat' (first | exact Take.here | apply Take.there)) (by simp)) (fun _ _ => ?_)
    rintro rfl
    refine g_nil ?_
    refine g_qt ?_
    refine g_ret ?_
    refine g_qt_ret ?_
    refine g_qb_ret ?_
    refine g_qn_ret ?_
    refine g_qb_ret ?_
    exact g_post (rs := [.cell 2 45]) rfl (Res.cellN (by rfl) rfl (Has.own (by repeat' (first | exact Take.here | apply Take.there))) (by rfl) .nil) ⟨_, _, _, _, _, _, _, _, _, _, _, rfl, rfl⟩ (by repeat' (first | exact Cover.nil | exact Take.here | apply Cover.cons | apply Take.there))
theorem routE_ok {ρ : Nat → Obj → Prop} (hk : LibA ρ) {lb : Nat} {ls : List (List UInt8)} (hL : Lns ρ lb ls) (p : Nat) (s : RS) (hs : s.1 < ls.length) (he : (foreS ls s).2 ≠ 0) :
    Con Tryz.prog ρ 52 #[.pointer (some ⟨p, 0, none⟩)] [Rd 73 p lb ls.length s]
    (fun v H => ∃ (nm : ByteArray) (ia oa na : Option Addr) (il ic ol oc nl nc : Nat) (rg : Int), v = .agg #[.string nm, .slice ia il ic, .slice oa ol oc, .int .i64 rg, .slice na nl nc, .slice none 0 0] ∧ H = [Rd 73 p lb ls.length (foreS ls s)]) := routE_gen rfl hk hL s hs he
end Go.Proofs.YtcnfcoojmbjdlaaGreatDoor
/- Chapter 26: reading a text whose first routine has an error. Conditions: what the library's variables hold (LibA). -/
namespace Go.Proofs.YtcnfcoojmbjdlaaGreatDoor
set_option maxRecDepth 8000
set_option linter.unusedVariables false
set_option linter.unusedSimpArgs false
set_option linter.unusedSectionVars false
open Go Go.Z Go.Z.Asm Go.RowKit Go.Z.Txt

theorem parseE_ok {ρ : Nat → Obj → Prop} (hk : LibA ρ) (s : List UInt8) (hs : s.length ≤ 4194304) (s1 s2 : RS) (h1 : listS (pieces 10 s) enumW (-1) (0, 0) = s1) (hm : moreS (pieces 10 s) s1 = true) (h2 : foreS (pieces 10 s) s1 = s2) (he : s2.2 ≠ 0) :
    Con Tryz.prog ρ 25 #[.string (strB s)] [] (fun v H => v = .tuple #[.agg #[.slice none 0 0, .slice none 0 0], .int .i64 ((s2.1 : Int) + 1), .int .i64 s2.2] ∧ H = []) := by
  have hsz : (strB s).size = s.length := rfl
  have hpl := pieces_le 10 s
  have hp0 := pieces_ne 10 s
  have hpm : ∀ l ∈ pieces 10 s, l.length < 4294967281 := fun l hl => Nat.lt_of_le_of_lt (pieces_mem hl).2 (by omega)
  generalize hls : pieces 10 s = ls at h1 hm h2 hpl hp0 hpm
  have hpos : 0 < ls.length := List.length_pos_iff.2 hp0
  have l1 : s1.1 < ls.length := by rw [← h1]; exact listS_lt enumW (-1) hpos
  have l2 : s2.1 < ls.length := by
    rw [← h2]
    exact listS_lt initW (-1) (listS_lt regsW 1 (listS_lt outW (-1) (listS_lt inB (-1) (headS_lt l1))))
  have hmf : moreS ls s2 = false := by unfold moreS; rw [decide_eq_false he]; rfl
  have mkL : ∀ {ρ' : Nat → Obj → Prop} {lb : Nat}, ρ' lb (.cells (ls.map strV).toArray 9 (0, 0)) → Lns ρ' lb ls := fun h => ⟨⟨_, _, h⟩, hpos, by omega, hpm⟩
  refine con_intro Tryz.func25 Tryz.call25 rfl Tryz.ntmps25 rfl (L := [(0, _)]) rfl fun w hh => ?_
  refine g_seq ?_
  refine g_region ?_
  refine g_eff (e_alloc (by rfl)) rfl (fun _ _ => ?_)
  rintro ⟨b2, rfl, rfl⟩
  refine g_pure (p_assign rfl) rfl ?_
  refine g_pure (p_assign rfl) rfl ?_
  refine g_nil ?_
  refine g_qt ?_
  refine g_seq ?_
  refine g_seq ?_
  refine g_region ?_
  refine g_pure (p_move rfl) rfl ?_
  refine g_pure (p_lens (by rfl) rfl) rfl ?_
  refine g_pure (p_gtr rfl rfl) rfl ?_
  refine g_nil ?_
  refine g_qt ?_
  refine g_ifd rfl (fun q0 => ?_) (fun q0 => ?_)
  · exfalso; omega
  · refine g_skip ?_
    refine g_qt ?_
    refine g_seq ?_
    refine g_region ?_
    refine g_pure (p_move rfl) rfl ?_
    refine g_call (Hin := []) (Hr := ?hr1) (R := ?rr1) rfl rfl rfl ?hin1 ?hc1 ?hk1
    case hin1 => repeat' (first | exact Cover.nil | exact Take.here | apply Cover.cons | apply Take.there)
    case hc1 => intro ρ' hρ hR; exact split_ok (hk.mono hρ) s 10 (by omega)
    rintro _ _ ⟨lb, rfl, rfl⟩
    rw [hls]
    refine g_pure (p_build (by rfl) rfl (by rfl)) rfl ?_
    refine g_eff (e_box rfl (by rfl)) rfl (fun _ _ => ?_)
    rintro ⟨b15, rfl, rfl⟩
    refine g_pure (p_assign rfl) rfl ?_
    refine g_nil ?_
    refine g_qt ?_
    refine g_seq ?_
    refine g_region ?_
    refine g_pure (p_move rfl) rfl ?_
    rw [show Blk b15 (.cells [.slice (some ⟨lb, 0, none⟩) ls.length ls.length, .int .i64 0, .int .i64 0].toArray 73 (0, 0)) = Rd 73 b15 lb ls.length (0, 0) from rfl]
    refine g_call (Hin := [Rd 73 b15 lb ls.length (0, 0)]) (Hr := ?hr2) (R := ?rr2) rfl rfl rfl ?hin2 ?hc2 ?hk2
    case hin2 => repeat' (first | exact Cover.nil | exact Take.here | apply Cover.cons | apply Take.there)
    case hc2 => intro ρ' hρ hR; exact (by have := list_ok (hk.mono hρ) (mkL (Take.ro (A := Blk lb (.cells (ls.map strV).toArray 9 (0, 0))) (by repeat' (first | exact Take.here | apply Take.there)) hR).blk) b15 (0, 0) hpos enumW (-1); rw [h1] at this; exact this)
    rintro _ _ ⟨a17, c17, out17, rfl, -, -, rfl⟩
    refine g_pure (p_build (by rfl) rfl (by rfl)) rfl ?_
    refine g_eff (e_alloc (by rfl)) rfl (fun _ _ => ?_)
    rintro ⟨b6, rfl, rfl⟩
    first | refine g_eff0 (e_storeO rfl rfl (by rfl) (by rfl) (by rfl) (by repeat' (first | exact Take.here | apply Take.there)) (by rfl)) (fun _ _ => ?_) | refine g_eff0 (e_storeN rfl rfl (by rfl) (by rfl) (by rfl) (by repeat' (first | exact Take.here | apply Take.there)) (by simp)) (fun _ _ => ?_)
    rintro rfl
    refine g_nil ?_
    refine g_qt ?_
    refine g_seq ?_
    refine g_block ?_
    refine g_loop (fun _ : Option (Option Addr × Nat) => [(2, .pointer (some ⟨b2, 0, none⟩)), (5, .pointer (some ⟨b15, 0, none⟩)), (6, .pointer (some ⟨b6, 0, none⟩))])
      (fun q => match q with
        | none => [Blk b6 (.cells [.slice a17 out17.length c17, .slice none 0 0].toArray 25 (0, 0)), Rd 73 b15 lb ls.length s1, Blk lb (.cells (ls.map strV).toArray 9 (0, 0)), Blk b2 (.cells [.slice none 0 0, .slice none 0 0].toArray 25 (0, 0))]
        | some (ra, rc) => [Blk b6 (.cells [.slice a17 out17.length c17, .slice ra 1 rc].toArray 25 (0, 0)), Rd 73 b15 lb ls.length s2, Blk lb (.cells (ls.map strV).toArray 9 (0, 0)), Blk b2 (.cells [.slice none 0 0, .slice none 0 0].toArray 25 (0, 0))])
      (fun _ => True) (fun q => match q with | none => 1 | some _ => 0) none trivial (by (repeat (first | exact trivial | refine ⟨by rfl, ?_⟩)); done) (by repeat' (first | exact Cover.nil | exact Take.here | apply Cover.cons | apply Take.there)) ?_
    rintro (_ | ⟨ra, rc⟩) -
    · dsimp only
      refine g_seq ?_
      refine g_seq ?_
      refine g_region ?_
      refine g_pure (p_move rfl) rfl ?_
      refine g_call (Hin := [Rd 73 b15 lb ls.length s1]) (Hr := ?hr3) (R := ?rr3) rfl rfl rfl ?hin3 ?hc3 ?hk3
      case hin3 => repeat' (first | exact Cover.nil | exact Take.here | apply Cover.cons | apply Take.there)
      case hc3 => intro ρ' hρ hR; exact (by have := more_ok (mkL (Take.ro (A := Blk lb (.cells (ls.map strV).toArray 9 (0, 0))) (by repeat' (first | exact Take.here | apply Take.there)) hR).blk) b15 s1 l1; rw [hm] at this; exact this)
      rintro _ _ ⟨rfl, rfl⟩
      refine g_nil ?_
      refine g_qt ?_
      refine g_ift rfl ?_
      refine g_skip ?_
      refine g_qt ?_
      refine g_block ?_
      refine g_ownnil (e := 45) (size := 6) ?_
      refine m_begin (.fl 0 0 (.fl 1 1 (.fl 2 0 (.ef 3 (.ef 4 (.ef 5 (.fl 6 0 (.ef 7 .done)))))))) [Blk b6 (.cells [.slice a17 out17.length c17, .slice none 0 0].toArray 25 (0, 0)), Blk lb (.cells (ls.map strV).toArray 9 (0, 0)), Blk b2 (.cells [.slice none 0 0, .slice none 0 0].toArray 25 (0, 0))] (by kernel_rfl) (by kernel_rfl) (by repeat' (first | exact Cover.nil | exact Take.here | apply Cover.cons | apply Take.there)) ?_
      refine m_float0 rfl (fun _ _ => p_fieldAddr rfl) rfl ?_
      refine m_float rfl (p_load (by rfl) rfl (by first | (apply Has.own; (repeat' (first | exact Take.here | apply Take.there)); done) | exact Has.ro (by assumption)) (by first | rfl | assumption)) rfl ?_
      refine m_float0 rfl (fun _ _ => p_move rfl) rfl ?_
      refine m_call (Hin := [Rd 73 b15 lb ls.length s1]) (Hr := ?hr4) (R := ?rr4) rfl wantedN rfl rfl rfl ?hin4 ?hc4 ?hk4
      case hin4 => repeat' (first | exact Cover.nil | exact Take.here | apply Cover.cons | apply Take.there)
      case hc4 => intro ρ' hρ hR; exact (by have := routE_ok (hk.mono hρ) (mkL (Take.ro (A := Blk lb (.cells (ls.map strV).toArray 9 (0, 0))) (by repeat' (first | exact Take.here | apply Take.there)) hR).blk) b15 s1 l1 (by rw [h2]; exact he); rw [h2] at this; exact this)
      rintro _ _ ⟨nm, ia, oa, na, il, ic, ol, oc, nl, nc, rg, rfl, rfl⟩
      refine ⟨.some (by repeat' (first | exact Cover.nil | exact Take.here | apply Cover.cons | apply Take.there)), ?_⟩
      refine m_eff rfl (e_bs (xs := [.tmp 24]) rfl rfl rfl (by rfl) (by rfl) rfl (by rfl)) rfl (fun _ _ => ?_)
      rintro ⟨b25, rfl, rfl⟩
      refine ⟨.some (by repeat' (first | exact Cover.nil | exact Take.here | apply Cover.cons | apply Take.there)), ?_⟩
      refine m_eff rfl (e_appendO (by rfl) (by rfl) rfl rfl (by first | (apply Has.own; (repeat' (first | exact Take.here | apply Take.there)); done) | exact Has.ro (by assumption)) (by rfl) (by rfl) (by repeat' (first | exact Take.here | apply Take.there)) (by omega) (by first | omega | (dsimp only; omega) | (simp <;> omega)) (by omega)) rfl (fun _ _ => ?_)
      rintro ⟨a26, c26, rfl, rfl⟩
      refine ⟨.none (by kernel_rfl), ?_⟩
      refine m_float0 rfl (fun _ _ => p_fieldAddr rfl) rfl ?_
      first | refine m_eff0 rfl (e_storeO rfl rfl (by rfl) (by rfl) (by rfl) (by repeat' (first | exact Take.here | apply Take.there)) (by rfl)) (fun _ _ => ?_) | refine m_eff0 rfl (e_store1 (by rfl) rfl rfl rfl (by repeat' (first | exact Take.here | apply Take.there)) (by first | decide | (simp <;> omega) | omega)) (fun _ _ => ?_)
      rintro rfl
      refine ⟨.none (by kernel_rfl), ?_⟩
      refine m_nil ?_
      refine g_qb ?_
      refine g_qn ?_
      exact g_next (some (a26, c26)) (by (repeat (first | exact trivial | refine ⟨by rfl, ?_⟩)); done) (by repeat' (first | exact Cover.nil | exact Take.here | apply Cover.cons | apply Take.there)) trivial Nat.one_pos
    · dsimp only
      refine g_seq ?_
      refine g_seq ?_
      refine g_region ?_
      refine g_pure (p_move rfl) rfl ?_
      refine g_call (Hin := [Rd 73 b15 lb ls.length s2]) (Hr := ?hr5) (R := ?rr5) rfl rfl rfl ?hin5 ?hc5 ?hk5
      case hin5 => repeat' (first | exact Cover.nil | exact Take.here | apply Cover.cons | apply Take.there)
      case hc5 => intro ρ' hρ hR; exact (by have := more_ok (mkL (Take.ro (A := Blk lb (.cells (ls.map strV).toArray 9 (0, 0))) (by repeat' (first | exact Take.here | apply Take.there)) hR).blk) b15 s2 l2; rw [hmf] at this; exact this)
      rintro _ _ ⟨rfl, rfl⟩
      refine g_nil ?_
      refine g_qt ?_
      refine g_iff rfl ?_
      refine g_exit ?_
      refine g_qt_exit ?_
      refine g_qn_exit ?_
      refine g_qb_exit ?_
      refine g_qt ?_
      refine g_seq ?_
      refine g_seq ?_
      refine g_region ?_
      refine g_pure (p_move rfl) rfl ?_
      refine g_pure (p_nilCheck rfl) rfl ?_
      refine g_pure (p_fieldAddr rfl) rfl ?_
      refine g_pure (p_load (by rfl) rfl (by first | (apply Has.own; (repeat' (first | exact Take.here | apply Take.there)); done) | exact Has.ro (by assumption)) (by first | rfl | assumption)) rfl ?_
      refine g_pure (p_neq rfl rfl) rfl ?_
      refine g_nil ?_
      refine g_qt ?_
      obtain ⟨at2, e2⟩ := s2
      dsimp only at he l2
      unfold Rd
      dsimp only
      refine g_ifnd rfl (fun q1 => ?_) (fun q1 => ?_)
      · refine g_seq ?_
        refine m_begin0 (.fl 0 0 (.fl 1 0 (.fl 2 0 (.fl 3 0 (.fl 4 1 (.fl 5 0 (.fl 6 0 (.fl 7 0 (.fl 8 0 (.fl 9 1 (.ef 10 (.fl 11 0 (.fl 12 0 .done))))))))))))) (by kernel_rfl) (by kernel_rfl) ?_
        refine m_float0 rfl (fun _ _ => p_build (by rfl) rfl (by rfl)) rfl ?_
        refine m_float0 rfl (fun _ _ => p_move rfl) rfl ?_
        refine m_float0 rfl (fun _ _ => p_nilCheck rfl) rfl ?_
        refine m_float0 rfl (fun _ _ => p_fieldAddr rfl) rfl ?_
        refine m_float rfl (p_load (by rfl) rfl (by first | (apply Has.own; (repeat' (first | exact Take.here | apply Take.there)); done) | exact Has.ro (by assumption)) (by first | rfl | assumption)) rfl ?_
        first | refine m_float0 rfl (fun _ _ => p_addi rfl rfl (by omega)) rfl ?_ | refine m_float0 rfl (fun _ _ => p_add rfl rfl) rfl ?_
        refine m_float0 rfl (fun _ _ => p_move rfl) rfl ?_
        refine m_float0 rfl (fun _ _ => p_nilCheck rfl) rfl ?_
        refine m_float0 rfl (fun _ _ => p_fieldAddr rfl) rfl ?_
        refine m_float rfl (p_load (by rfl) rfl (by first | (apply Has.own; (repeat' (first | exact Take.here | apply Take.there)); done) | exact Has.ro (by assumption)) (by first | rfl | assumption)) rfl ?_
        first | refine m_eff0 rfl (e_storeO rfl rfl (by rfl) (by rfl) (by rfl) (by repeat' (first | exact Take.here | apply Take.there)) (by rfl)) (fun _ _ => ?_) | refine m_eff0 rfl (e_storeN rfl rfl (by rfl) (by rfl) (by rfl) (by repeat' (first | exact Take.here | apply Take.there)) (by simp)) (fun _ _ => ?_)
        rintro rfl
        refine ⟨.some (by repeat' (first | exact Cover.nil | exact Take.here | apply Cover.cons | apply Take.there)), ?_⟩
        refine m_float0 rfl (fun _ _ => p_assign rfl) rfl ?_
        refine m_float0 rfl (fun _ _ => p_assign rfl) rfl ?_
        refine m_nil ?_
        refine g_qt ?_
        refine g_ret ?_
        refine g_qt_ret ?_
        exact g_post (rs := [.cell 2 25, .tmp 3, .tmp 4]) rfl (Res.cellN (by rfl) rfl (Has.own (by repeat' (first | exact Take.here | apply Take.there))) (by rfl) (.tmp rfl (.tmp rfl .nil))) ⟨rfl, rfl⟩ (by repeat' (first | exact Cover.nil | exact Take.here | apply Cover.cons | apply Take.there))
      · exact absurd q1 he
end Go.Proofs.YtcnfcoojmbjdlaaGreatDoor
/- Chapter 26: the chapter's examples hold. Conditions: what the library's variables hold (LibA). -/
namespace Go.Z
set_option maxRecDepth 8000
set_option linter.unusedVariables false
set_option linter.unusedSimpArgs false
set_option linter.unusedSectionVars false
open Go
section
variable {P : Program} {n : Nat} {L : Fr} {H H' Hs : List Assn} {M : Mx} {Q : Exit → Act → World → Prop} {ops : Array Oper} {ty : TypeId} {ps : String} {af : Array Edge} {bf : Array Nat} {F T : List Nat} {i : Nat} {rest : Tree}
/-- an effect in a drawn region that is carried out, behind a guard -/
theorem m_effY {d j dj : Nat} {b : Bool} {op : Op} {post : Value → List Assn → Prop} (ho : ops[i]? = some ⟨some d, op, ty, ps, af, some (j, b)⟩) (hd : (ops[j]?).bind (·.dst) = some dj) (hl : L.lookup dj = some (.bool b)) (hp : Eff P M n L H ⟨some d, op, ty, ps, af, some (j, b)⟩ post) (hn : Nat.blt d n = true)
    (k : ∀ v H', post v H' → Kept bf F T i H' Hs ∧ G M n ((d, v) :: L) H' (TM P ops bf F M Hs rest (upd bf F T i) Q)) : G M n L H (TM P ops bf F M Hs (.ef i rest) T Q) := by
  unfold G TM at *
  intro a w ha hm
  simp only [wpMix, wpOp, ho]
  rw [if_pos (by simp [Region.wanted, yielded_of hd ha hl])]
  refine .inl (hp a w ha hm _ _ fun v H' w' hpost hm' => ?_)
  obtain ⟨hc, hk⟩ := k v H' hpost
  exact ⟨hc.ms hm', hk _ _ (ha.put (by simpa using hn) v) hm'⟩
end
end Go.Z
namespace Go.Z.Asm
set_option maxRecDepth 8000
set_option linter.unusedVariables false
set_option linter.unusedSimpArgs false
set_option linter.unusedSectionVars false
open Go Go.Z Go.Lib Go.Z.Txt Go.Z.Val
theorem numbersS_err {W : List (List UInt8)} {many : Int} {s : RS} (h : s.2 ≠ 0) : numbersS W many s = s := by
  rw [numbersS_eq]
  have h1 : badS W s = s := by unfold badS; split; exact failS_err h; rfl
  rw [h1]
  have h2 : (if 0 ≤ many ∧ (W.length : Int) ≠ many then failS 5 s else s) = s := by split; exact failS_err h; rfl
  rw [h2]
  unfold doneS
  rw [if_neg h]
theorem listS_err {ls : List (List UInt8)} {word : List UInt8} {many : Int} {s : RS} (h : s.2 ≠ 0) : listS ls word many s = s := by
  unfold listS
  rw [nextS_err h]
  dsimp only
  have h2 : (if ([[]] : List (List UInt8)).headD [] ≠ word then failS 5 s else s) = s := by split; exact failS_err h; rfl
  rw [h2, numbersS_err h]
theorem listS_bad {ls : List (List UInt8)} {word : List UInt8} {many : Int} {s : RS} {t : RS} (h : (if (nextS ls s).1.headD [] ≠ word then failS 5 (nextS ls s).2 else (nextS ls s).2) = t) (h0 : t.2 ≠ 0) : listS ls word many s = t := by
  unfold listS
  dsimp only
  rw [h, numbersS_err h0]
def badT : List UInt8 := [101, 110, 117, 109, 115, 10, 114, 111, 117, 116, 105, 110, 101, 32, 102, 10, 105, 110, 10, 111, 116, 32, 49, 10]
theorem bad_enums : listS (pieces 10 badT) enumW (-1) (0, 0) = (1, 0) := by decide
theorem bad_more : moreS (pieces 10 badT) (1, 0) = true := by decide
theorem bad_fore : foreS (pieces 10 badT) (1, 0) = (3, 5) := by
  have h1 : headS (pieces 10 badT) (1, 0) = (2, 0) := by decide
  have h2 : listS (pieces 10 badT) inB (-1) (2, 0) = (3, 0) := by decide
  have h3 : listS (pieces 10 badT) outW (-1) (3, 0) = (3, 5) := listS_bad (by decide) (by decide)
  unfold foreS
  rw [h1, h2, h3, listS_err (by decide), listS_err (by decide)]
theorem small_text : textP smallI = [101, 110, 117, 109, 115, 10, 114, 111, 117, 116, 105, 110, 101, 32, 102, 10, 105, 110, 32, 50, 32, 50, 10, 111, 117, 116, 32, 50, 10, 114, 101, 103, 115, 32, 51, 10, 105, 110, 105, 116, 10, 122, 101, 114, 111, 32, 48, 32, 50, 10, 97, 112, 112, 108, 121, 32, 50, 32, 48, 32, 49, 32, 54, 10, 109, 111, 118, 101, 32, 50, 32, 50, 10, 101, 110, 100, 10] := by
  have it : ∀ n : Int, 0 ≤ n → n < 10 → itoa n = [UInt8.ofNat (48 + n.toNat)] := fun n h0 h1 => by
    rw [itoa_pos (by omega), dec_small (by omega)]
  have i0 : itoa 0 = [48] := it 0 (by decide) (by decide)
  have i1 : itoa 1 = [49] := it 1 (by decide) (by decide)
  have i2 : itoa 2 = [50] := it 2 (by decide) (by decide)
  have i3 : itoa 3 = [51] := it 3 (by decide) (by decide)
  have i6 : itoa 6 = [54] := it 6 (by decide) (by decide)
  simp [textP, smallI, rtT, insT, lineP, usedP, opRow, knownP, opT, fieldsV, i0, i1, i2, i3, i6]
def smallR : List Value := encIns (8, 0, 2, 0, 0) ++ encIns (6, 2, 0, 1, 6) ++ encIns (2, 2, 2, 0, 0)
theorem small_im {ρ : Nat → Obj → Prop} {b1 b2 b6 b8 : Nat} {T1 T2 T6 T8 : TypeId} {f1 f2 f6 f8 : Nat × Nat} (h1 : ρ b1 (.cells [encI 2, encI 2].toArray T1 f1)) (h2 : ρ b2 (.cells [encI 2].toArray T2 f2)) (h6 : ρ b6 (.cells smallR.toArray T6 f6))
    (h8 : ρ b8 (.cells [.string (strB [102]), .slice (some ⟨b1, 0, none⟩) 2 2, .slice (some ⟨b2, 0, none⟩) 1 1, .int .i64 3, .slice none 0 0, .slice (some ⟨b6, 0, none⟩) 3 3].toArray T8 f8)) : ImI ρ none (some ⟨b8, 0, none⟩) smallI where
  es := rsl_nil
  rs := rts_one h8 ⟨_, 2, _, 1, _, 0, _, 3, rfl, RSl.of_blk (k := 2) (size := 1) h1 (Nat.le_refl _), RSl.of_blk (k := 1) (size := 1) h2 (Nat.le_refl _), rsl_nil, RSl.of_blk (k := 3) (size := 5) h6 (Nat.le_refl _)⟩
  el := by decide
  rl := by decide
  ei := fun v h => absurd h List.not_mem_nil
  ok := fun x hx => by
    rw [show x = smallI.2[0] from List.mem_singleton.1 hx]
    exact ⟨by decide, by decide, by decide, by decide, by decide, fun v hv => by simp [smallI] at hv; subst hv; exact ⟨by decide, by decide⟩, fun v hv => by simp [smallI] at hv; subst hv; exact ⟨by decide, by decide⟩, ⟨by decide, by decide⟩, fun v hv => by simp [smallI] at hv, fun i hi => by
      simp [smallI] at hi
      rcases hi with rfl | rfl | rfl <;> exact ⟨⟨by decide, by decide⟩, ⟨by decide, by decide⟩, ⟨by decide, by decide⟩, ⟨by decide, by decide⟩, ⟨by decide, by decide⟩⟩⟩
end Go.Z.Asm
namespace Go.Proofs.YtcnfcoojmbjdlaaGreatDoor
set_option maxRecDepth 8000
set_option linter.unusedVariables false
set_option linter.unusedSimpArgs false
set_option linter.unusedSectionVars false
open Go Go.Z Go.Z.Asm Go.RowKit Go.Z.Txt

theorem smallA_ok {ρ : Nat → Obj → Prop} : Con Tryz.prog ρ 28 #[] [] (fun v H => ∃ b1 b2 b6 b8 : Nat, v = .agg #[.slice none 0 0, .slice (some ⟨b8, 0, none⟩) 1 1] ∧
    H = [Blk b8 (.cells [.string (strB [102]), .slice (some ⟨b1, 0, none⟩) 2 2, .slice (some ⟨b2, 0, none⟩) 1 1, .int .i64 3, .slice none 0 0, .slice (some ⟨b6, 0, none⟩) 3 3].toArray 45 (0, 0)), Blk b6 (.cells smallR.toArray 32 (0, 0)), Blk b2 (.cells [encI 2].toArray 3 (0, 0)), Blk b1 (.cells [encI 2, encI 2].toArray 3 (0, 0))]) := by
  refine con_intro Tryz.func28 Tryz.call28 rfl Tryz.ntmps28 rfl (L := []) rfl fun w hh => ?_
  refine g_seq ?_
  refine g_region ?_
  refine g_eff (e_alloc (by rfl)) rfl (fun _ _ => ?_)
  rintro ⟨b0, rfl, rfl⟩
  refine g_nil ?_
  refine g_qt ?_
  refine g_seq ?_
  refine g_region ?_
  refine g_eff (e_bs (xs := [.const (.int .i64 2), .const (.int .i64 2)]) rfl rfl rfl (by rfl) (by rfl) rfl (by rfl)) rfl (fun _ _ => ?_)
  rintro ⟨b1, rfl, rfl⟩
  refine g_eff (e_bs (xs := [.const (.int .i64 2)]) rfl rfl rfl (by rfl) (by rfl) rfl (by rfl)) rfl (fun _ _ => ?_)
  rintro ⟨b2, rfl, rfl⟩
  refine g_pure (p_build (by rfl) rfl (by rfl)) rfl ?_
  refine g_pure (p_build (by rfl) rfl (by rfl)) rfl ?_
  refine g_pure (p_build (by rfl) rfl (by rfl)) rfl ?_
  refine g_eff (e_bs (xs := [.tmp 3, .tmp 4, .tmp 5]) rfl rfl rfl (by rfl) (by rfl) rfl (by rfl)) rfl (fun _ _ => ?_)
  rintro ⟨b6, rfl, rfl⟩
  refine g_pure (p_build (by rfl) rfl (by rfl)) rfl ?_
  refine g_eff (e_bs (xs := [.tmp 7]) rfl rfl rfl (by rfl) (by rfl) rfl (by rfl)) rfl (fun _ _ => ?_)
  rintro ⟨b8, rfl, rfl⟩
  refine g_pure (p_build (by rfl) rfl (by rfl)) rfl ?_
  first | refine g_eff0 (e_storeO rfl rfl (by rfl) (by rfl) (by rfl) (by repeat' (first | exact Take.here | apply Take.there)) (by rfl)) (fun _ _ => ?_) | refine g_eff0 (e_storeN rfl rfl (by rfl) (by rfl) (by rfl) (by repeat' (first | exact Take.here | apply Take.there)) (by simp)) (fun _ _ => ?_)
  rintro rfl
  refine g_nil ?_
  refine g_qt ?_
  refine g_ret ?_
  exact g_post (rs := [.cell 0 25]) rfl (Res.cellN (by rfl) rfl (Has.own (by repeat' (first | exact Take.here | apply Take.there))) (by rfl) .nil) ⟨b1, b2, b6, b8, rfl, rfl⟩ (by repeat' (first | exact Cover.nil | exact Take.here | apply Cover.cons | apply Take.there))

theorem lives_ok {ρ : Nat → Obj → Prop} (hk : LibA ρ) : Con Tryz.prog ρ 11 #[] [] (fun v H => v = .bool true ∧ H = []) := by
  refine con_intro Tryz.func11 Tryz.call11 rfl Tryz.ntmps11 rfl (L := []) rfl fun w hh => ?_
  refine g_seq ?_
  refine g_region ?_
  refine g_pure (p_assign rfl) rfl ?_
  refine g_nil ?_
  refine g_qt ?_
  refine g_seq ?_
  refine g_region ?_
  refine g_call (Hin := []) (Hr := ?hr1) (R := ?rr1) rfl rfl rfl ?hin1 ?hc1 ?hk1
  case hin1 => repeat' (first | exact Cover.nil | exact Take.here | apply Cover.cons | apply Take.there)
  case hc1 => intro ρ' hρ hR; exact smallA_ok
  rintro _ _ ⟨m1, m2, m6, m8, rfl, rfl⟩
  have cT : ∀ {ρ' : Nat → Obj → Prop} {b8 : Nat}, (∀ b o, ρ b o → ρ' b o) → ImI ρ' none (some ⟨b8, 0, none⟩) smallI → Con Tryz.prog ρ' 23 #[.agg #[.slice none 0 0, .slice (some ⟨b8, 0, none⟩) 1 1]] [] (fun v H => v = .tuple #[.string (strB [101, 110, 117, 109, 115, 10, 114, 111, 117, 116, 105, 110, 101, 32, 102, 10, 105, 110, 32, 50, 32, 50, 10, 111, 117, 116, 32, 50, 10, 114, 101, 103, 115, 32, 51, 10, 105, 110, 105, 116, 10, 122, 101, 114, 111, 32, 48, 32, 50, 10, 97, 112, 112, 108, 121, 32, 50, 32, 48, 32, 49, 32, 54, 10, 109, 111, 118, 101, 32, 50, 32, 50, 10, 101, 110, 100, 10]), .int .i64 0] ∧ H = []) := fun hρ h => by
    have := textA_ok (ec := 0) (rc := 1) (hk.mono hρ).ops (hk.mono hρ).tab h
    rw [small_check, if_pos rfl, small_text] at this
    exact this
  have cW : ∀ {ρ' : Nat → Obj → Prop} {b8 : Nat}, (∀ b o, ρ b o → ρ' b o) → ImI ρ' none (some ⟨b8, 0, none⟩) smallI → Con Tryz.prog ρ' 21 #[.agg #[.slice none 0 0, .slice (some ⟨b8, 0, none⟩) 1 1]] [] (fun v H => v = .tuple #[.int .i64 3, .int .i64 0] ∧ H = []) := fun hρ h => by
    have := worstA_ok (ec := 0) (rc := 1) (hk.mono hρ).ops h
    rw [small_worst] at this
    exact this
  have cC : ∀ {ρ' : Nat → Obj → Prop} {b8 : Nat}, (∀ b o, ρ b o → ρ' b o) → ImI ρ' none (some ⟨b8, 0, none⟩) smallI → Con Tryz.prog ρ' 14 #[.agg #[.slice none 0 0, .slice (some ⟨b8, 0, none⟩) 1 1]] [] (fun v H => v = .int .i64 0 ∧ H = []) := fun hρ h => by
    have := checkA_ok (ec := 0) (rc := 1) (hk.mono hρ).ops h
    rw [small_check] at this
    exact this
  have cU : ∀ {ρ' : Nat → Obj → Prop} {b8 : Nat}, ImI ρ' none (some ⟨b8, 0, none⟩) smallI → Con Tryz.prog ρ' 17 #[.agg #[.slice none 0 0, .slice (some ⟨b8, 0, none⟩) 1 1], .agg (encIns (6, 2, 0, 1, 6)).toArray] [] (fun v H => ∃ a c, v = .slice a 2 c ∧ H = [OwnSl 3 1 a 2 c ([0, 1].map encI)]) := fun h => by
    have := usesA_ok (ec := 0) (rc := 1) h (6, 2, 0, 1, 6) ⟨by decide, by decide⟩
    rw [small_uses] at this
    exact this
  have cS : ∀ {ρ' : Nat → Obj → Prop} {b8 : Nat}, ImI ρ' none (some ⟨b8, 0, none⟩) smallI → Con Tryz.prog ρ' 12 #[.agg #[.slice none 0 0, .slice (some ⟨b8, 0, none⟩) 1 1], .agg #[.slice none 0 0, .slice (some ⟨b8, 0, none⟩) 1 1]] [] (fun v H => v = .bool true ∧ H = []) := fun h => by
    have := sameA_ok (ec := 0) (rc := 1) (ed := 0) (rd := 1) h h
    rw [decide_eq_true (p := smallI = smallI) rfl] at this
    exact this
  have cP : ∀ {ρ' : Nat → Obj → Prop}, (∀ b o, ρ b o → ρ' b o) → Con Tryz.prog ρ' 25 #[.string (strB badT)] [] (fun v H => v = .tuple #[.agg #[.slice none 0 0, .slice none 0 0], .int .i64 4, .int .i64 5] ∧ H = []) := fun hρ =>
    parseE_ok (hk.mono hρ) badT (by decide) (1, 0) (3, 5) bad_enums bad_more bad_fore (by decide)
  have cN : ∀ {ρ' : Nat → Obj → Prop} (a b : Option Addr) (c : Nat), RSl ρ' 1 a 2 ([0, 1].map encI) → RSl ρ' 1 b 2 ([0, 1].map encI) → Con Tryz.prog ρ' 16 #[.slice a 2 c, .slice b 2 2] [] (fun v H => v = .bool true ∧ H = []) := fun a b c h1 h2 => by
    have := Ints_ok a b c 2 [0, 1] [0, 1] h1 h2 (by decide)
    rw [decide_eq_true (p := ([0, 1] : List Int) = [0, 1]) rfl] at this
    exact this
  refine g_eff (e_alloc (by rfl)) rfl (fun _ _ => ?_)
  rintro ⟨b1, rfl, rfl⟩
  first | refine g_eff0 (e_storeO rfl rfl (by rfl) (by rfl) (by rfl) (by repeat' (first | exact Take.here | apply Take.there)) (by rfl)) (fun _ _ => ?_) | refine g_eff0 (e_storeN rfl rfl (by rfl) (by rfl) (by rfl) (by repeat' (first | exact Take.here | apply Take.there)) (by simp)) (fun _ _ => ?_)
  rintro rfl
  refine g_nil ?_
  refine g_qt ?_
  refine g_seq ?_
  refine g_region ?_
  first | refine g_pure (p_loadO (by rfl) rfl (by first | (apply Has.own; (repeat' (first | exact Take.here | apply Take.there)); done) | exact Has.ro (by assumption)) (by rfl)) rfl ?_ | refine g_pure (p_loadN (by rfl) rfl (by first | (apply Has.own; (repeat' (first | exact Take.here | apply Take.there)); done) | exact Has.ro (by assumption)) (by first | rfl | assumption)) rfl ?_
  refine g_call (Hin := []) (Hr := ?hr2) (R := ?rr2) rfl rfl rfl ?hin2 ?hc2 ?hk2
  case hin2 => repeat' (first | exact Cover.nil | exact Take.here | apply Cover.cons | apply Take.there)
  case hc2 => intro ρ' hρ hR; exact cT hρ (small_im (Take.ro (A := Blk m1 (.cells [encI 2, encI 2].toArray 3 (0, 0))) (by repeat' (first | exact Take.here | apply Take.there)) hR).blk (Take.ro (A := Blk m2 (.cells [encI 2].toArray 3 (0, 0))) (by repeat' (first | exact Take.here | apply Take.there)) hR).blk (Take.ro (A := Blk m6 (.cells smallR.toArray 32 (0, 0))) (by repeat' (first | exact Take.here | apply Take.there)) hR).blk (Take.ro (A := Blk m8 (.cells [.string (strB [102]), .slice (some ⟨m1, 0, none⟩) 2 2, .slice (some ⟨m2, 0, none⟩) 1 1, .int .i64 3, .slice none 0 0, .slice (some ⟨m6, 0, none⟩) 3 3].toArray 45 (0, 0))) (by repeat' (first | exact Take.here | apply Take.there)) hR).blk)
  rintro _ _ ⟨rfl, rfl⟩
  refine g_pure (p_move rfl) rfl ?_
  refine g_pure (p_extract rfl rfl) rfl ?_
  refine g_pure (p_extract rfl rfl) rfl ?_
  refine g_pure (p_assign rfl) rfl ?_
  refine g_pure (p_assign rfl) rfl ?_
  refine g_nil ?_
  refine g_qt ?_
  refine g_seq ?_
  refine g_region ?_
  first | refine g_pure (p_loadO (by rfl) rfl (by first | (apply Has.own; (repeat' (first | exact Take.here | apply Take.there)); done) | exact Has.ro (by assumption)) (by rfl)) rfl ?_ | refine g_pure (p_loadN (by rfl) rfl (by first | (apply Has.own; (repeat' (first | exact Take.here | apply Take.there)); done) | exact Has.ro (by assumption)) (by first | rfl | assumption)) rfl ?_
  refine g_call (Hin := []) (Hr := ?hr3) (R := ?rr3) rfl rfl rfl ?hin3 ?hc3 ?hk3
  case hin3 => repeat' (first | exact Cover.nil | exact Take.here | apply Cover.cons | apply Take.there)
  case hc3 => intro ρ' hρ hR; exact cW hρ (small_im (Take.ro (A := Blk m1 (.cells [encI 2, encI 2].toArray 3 (0, 0))) (by repeat' (first | exact Take.here | apply Take.there)) hR).blk (Take.ro (A := Blk m2 (.cells [encI 2].toArray 3 (0, 0))) (by repeat' (first | exact Take.here | apply Take.there)) hR).blk (Take.ro (A := Blk m6 (.cells smallR.toArray 32 (0, 0))) (by repeat' (first | exact Take.here | apply Take.there)) hR).blk (Take.ro (A := Blk m8 (.cells [.string (strB [102]), .slice (some ⟨m1, 0, none⟩) 2 2, .slice (some ⟨m2, 0, none⟩) 1 1, .int .i64 3, .slice none 0 0, .slice (some ⟨m6, 0, none⟩) 3 3].toArray 45 (0, 0))) (by repeat' (first | exact Take.here | apply Take.there)) hR).blk)
  rintro _ _ ⟨rfl, rfl⟩
  refine g_pure (p_move rfl) rfl ?_
  refine g_pure (p_extract rfl rfl) rfl ?_
  refine g_pure (p_extract rfl rfl) rfl ?_
  refine g_pure (p_assign rfl) rfl ?_
  refine g_pure (p_assign rfl) rfl ?_
  refine g_nil ?_
  refine g_qt ?_
  refine g_seq ?_
  refine g_region ?_
  refine g_call (Hin := []) (Hr := ?hr4) (R := ?rr4) rfl rfl rfl ?hin4 ?hc4 ?hk4
  case hin4 => repeat' (first | exact Cover.nil | exact Take.here | apply Cover.cons | apply Take.there)
  case hc4 => intro ρ' hρ hR; exact cP hρ
  rintro _ _ ⟨rfl, rfl⟩
  refine g_pure (p_move rfl) rfl ?_
  refine g_pure (p_extract rfl rfl) rfl ?_
  refine g_pure (p_extract rfl rfl) rfl ?_
  refine g_pure (p_extract rfl rfl) rfl ?_
  refine g_eff (e_alloc (by rfl)) rfl (fun _ _ => ?_)
  rintro ⟨b6, rfl, rfl⟩
  first | refine g_eff0 (e_storeO rfl rfl (by rfl) (by rfl) (by rfl) (by repeat' (first | exact Take.here | apply Take.there)) (by rfl)) (fun _ _ => ?_) | refine g_eff0 (e_storeN rfl rfl (by rfl) (by rfl) (by rfl) (by repeat' (first | exact Take.here | apply Take.there)) (by simp)) (fun _ _ => ?_)
  rintro rfl
  refine g_pure (p_assign rfl) rfl ?_
  refine g_pure (p_assign rfl) rfl ?_
  refine g_nil ?_
  refine g_qt ?_
  refine g_seq ?_
  refine g_join (fun _ : Unit => [(0, .bool true)]) (fun _ => []) (fun _ => True) ?_ ?_
  · refine m_begin0 (.fl 0 0 (.fl 1 0 (.fl 2 0 (.fl 3 0 (.fl 4 0 (.fl 5 0 (.fl 6 0 (.fl 7 0 (.fl 8 0 (.fl 9 0 (.fl 10 0 (.fl 11 0 (.fl 12 0 (.fl 13 0 (.fl 14 0 (.fl 15 0 (.fl 16 0 (.fl 17 0 (.fl 18 0 (.fl 19 0 (.fl 20 0 (.fl 21 0 (.fl 22 0 (.fl 23 0 (.fl 24 1 (.fl 25 0 (.fl 26 0 (.fl 27 0 (.fl 28 0 (.fl 29 1 (.ef 30 (.fl 31 0 (.fl 32 0 (.fl 33 0 (.fl 34 1 (.fl 35 0 (.fl 36 1 (.fl 37 0 (.fl 38 0 (.fl 39 1 (.fl 40 0 (.fl 41 1 (.or (.ef 42 (.ef 43 (.ef 44 (.fl 45 0 (.fl 46 0 (.fl 47 1 (.fl 48 1 (.ef 49 (.fl 50 0 (.fl 51 0 .done)))))))))) (.ef 43 (.ef 42 (.ef 44 (.fl 45 0 (.fl 46 0 (.fl 47 1 (.fl 48 1 (.ef 49 (.fl 50 0 (.fl 51 0 .done))))))))))))))))))))))))))))))))))))))))))))))))))))) (by kernel_rfl) (by kernel_rfl) ?_
    refine m_float0 rfl (fun _ _ => p_move rfl) rfl ?_
    refine m_float0 rfl (fun _ _ => p_eqlT rfl rfl rfl) rfl ?_
    refine m_float0 rfl (fun _ _ => p_move rfl) rfl ?_
    refine m_yes0 rfl rfl rfl (fun _ _ => p_move rfl) rfl ?_
    refine m_yes0 rfl rfl rfl (fun _ _ => p_eqlsT (by rfl) rfl rfl rfl) rfl ?_
    first | refine m_float0 rfl (fun _ _ => p_pickt rfl rfl) rfl ?_ | refine m_float0 rfl (fun _ _ => p_pickf rfl rfl) rfl ?_
    refine m_float0 rfl (fun _ _ => p_move rfl) rfl ?_
    refine m_yes0 rfl rfl rfl (fun _ _ => p_move rfl) rfl ?_
    refine m_yes0 rfl rfl rfl (fun _ _ => p_eqlT rfl rfl rfl) rfl ?_
    first | refine m_float0 rfl (fun _ _ => p_pickt rfl rfl) rfl ?_ | refine m_float0 rfl (fun _ _ => p_pickf rfl rfl) rfl ?_
    refine m_float0 rfl (fun _ _ => p_move rfl) rfl ?_
    refine m_yes0 rfl rfl rfl (fun _ _ => p_move rfl) rfl ?_
    refine m_yes0 rfl rfl rfl (fun _ _ => p_eqlT rfl rfl rfl) rfl ?_
    first | refine m_float0 rfl (fun _ _ => p_pickt rfl rfl) rfl ?_ | refine m_float0 rfl (fun _ _ => p_pickf rfl rfl) rfl ?_
    refine m_float0 rfl (fun _ _ => p_move rfl) rfl ?_
    refine m_yes0 rfl rfl rfl (fun _ _ => p_move rfl) rfl ?_
    refine m_yes0 rfl rfl rfl (fun _ _ => p_eqlT rfl rfl rfl) rfl ?_
    first | refine m_float0 rfl (fun _ _ => p_pickt rfl rfl) rfl ?_ | refine m_float0 rfl (fun _ _ => p_pickf rfl rfl) rfl ?_
    refine m_float0 rfl (fun _ _ => p_move rfl) rfl ?_
    refine m_yes0 rfl rfl rfl (fun _ _ => p_move rfl) rfl ?_
    refine m_yes0 rfl rfl rfl (fun _ _ => p_eqlT rfl rfl rfl) rfl ?_
    first | refine m_float0 rfl (fun _ _ => p_pickt rfl rfl) rfl ?_ | refine m_float0 rfl (fun _ _ => p_pickf rfl rfl) rfl ?_
    refine m_float0 rfl (fun _ _ => p_move rfl) rfl ?_
    refine m_yes0 rfl rfl rfl (fun _ _ => p_fieldAddr rfl) rfl ?_
    refine m_yes rfl rfl rfl (p_load (by rfl) rfl (by first | (apply Has.own; (repeat' (first | exact Take.here | apply Take.there)); done) | exact Has.ro (by assumption)) (by first | rfl | assumption)) rfl ?_
    refine m_yes0 rfl rfl rfl (fun _ _ => p_len (by rfl) rfl) rfl ?_
    refine m_yes0 rfl rfl rfl (fun _ _ => p_eqlT rfl rfl rfl) rfl ?_
    first | refine m_float0 rfl (fun _ _ => p_pickt rfl rfl) rfl ?_ | refine m_float0 rfl (fun _ _ => p_pickf rfl rfl) rfl ?_
    refine m_float0 rfl (fun _ _ => p_move rfl) rfl ?_
    first | refine m_yes rfl rfl rfl (p_loadO (by rfl) rfl (by first | (apply Has.own; (repeat' (first | exact Take.here | apply Take.there)); done) | exact Has.ro (by assumption)) (by rfl)) rfl ?_ | refine m_yes rfl rfl rfl (p_loadN (by rfl) rfl (by first | (apply Has.own; (repeat' (first | exact Take.here | apply Take.there)); done) | exact Has.ro (by assumption)) (by first | rfl | assumption)) rfl ?_
    refine m_call (Hin := []) (Hr := ?hr5) (R := ?rr5) rfl (wantedY rfl rfl) rfl rfl rfl ?hin5 ?hc5 ?hk5
    case hin5 => repeat' (first | exact Cover.nil | exact Take.here | apply Cover.cons | apply Take.there)
    case hc5 => intro ρ' hρ hR; exact cC hρ (small_im (Take.ro (A := Blk m1 (.cells [encI 2, encI 2].toArray 3 (0, 0))) (by repeat' (first | exact Take.here | apply Take.there)) hR).blk (Take.ro (A := Blk m2 (.cells [encI 2].toArray 3 (0, 0))) (by repeat' (first | exact Take.here | apply Take.there)) hR).blk (Take.ro (A := Blk m6 (.cells smallR.toArray 32 (0, 0))) (by repeat' (first | exact Take.here | apply Take.there)) hR).blk (Take.ro (A := Blk m8 (.cells [.string (strB [102]), .slice (some ⟨m1, 0, none⟩) 2 2, .slice (some ⟨m2, 0, none⟩) 1 1, .int .i64 3, .slice none 0 0, .slice (some ⟨m6, 0, none⟩) 3 3].toArray 45 (0, 0))) (by repeat' (first | exact Take.here | apply Take.there)) hR).blk)
    rintro _ _ ⟨rfl, rfl⟩
    refine ⟨.some (by repeat' (first | exact Cover.nil | exact Take.here | apply Cover.cons | apply Take.there)), ?_⟩
    refine m_yes0 rfl rfl rfl (fun _ _ => p_eqlT rfl rfl rfl) rfl ?_
    first | refine m_float0 rfl (fun _ _ => p_pickt rfl rfl) rfl ?_ | refine m_float0 rfl (fun _ _ => p_pickf rfl rfl) rfl ?_
    refine m_float0 rfl (fun _ _ => p_move rfl) rfl ?_
    first | refine m_yes rfl rfl rfl (p_loadO (by rfl) rfl (by first | (apply Has.own; (repeat' (first | exact Take.here | apply Take.there)); done) | exact Has.ro (by assumption)) (by rfl)) rfl ?_ | refine m_yes rfl rfl rfl (p_loadN (by rfl) rfl (by first | (apply Has.own; (repeat' (first | exact Take.here | apply Take.there)); done) | exact Has.ro (by assumption)) (by first | rfl | assumption)) rfl ?_
    refine m_yes0 rfl rfl rfl (fun _ _ => p_fieldAddr rfl) rfl ?_
    refine m_yes rfl rfl rfl (p_load (by rfl) rfl (by first | (apply Has.own; (repeat' (first | exact Take.here | apply Take.there)); done) | exact Has.ro (by assumption)) (by first | rfl | assumption)) rfl ?_
    refine m_yes0 rfl rfl rfl (fun _ _ => p_indexAddr rfl rfl (by decide) (fun _ => rfl)) rfl ?_
    refine m_yes0 rfl rfl rfl (fun _ _ => p_fieldAddr rfl) rfl ?_
    refine m_yes rfl rfl rfl (p_load (by rfl) rfl (by first | (apply Has.own; (repeat' (first | exact Take.here | apply Take.there)); done) | exact Has.ro (by assumption)) (by first | rfl | assumption)) rfl ?_
    refine m_yes0 rfl rfl rfl (fun _ _ => p_indexAddr rfl rfl (by decide) (fun _ => rfl)) rfl ?_
    first | refine m_yes rfl rfl rfl (p_loadO (by rfl) rfl (by first | (apply Has.own; (repeat' (first | exact Take.here | apply Take.there)); done) | exact Has.ro (by assumption)) (by rfl)) rfl ?_ | refine m_yes rfl rfl rfl (p_loadN (by rfl) rfl (by first | (apply Has.own; (repeat' (first | exact Take.here | apply Take.there)); done) | exact Has.ro (by assumption)) (by first | rfl | assumption)) rfl ?_
    refine m_or ?_ ?_
    · refine m_call (Hin := []) (Hr := ?hr6) (R := ?rr6) rfl (wantedY rfl rfl) rfl rfl rfl ?hin6 ?hc6 ?hk6
      case hin6 => repeat' (first | exact Cover.nil | exact Take.here | apply Cover.cons | apply Take.there)
      case hc6 => intro ρ' hρ hR; exact cU (small_im (Take.ro (A := Blk m1 (.cells [encI 2, encI 2].toArray 3 (0, 0))) (by repeat' (first | exact Take.here | apply Take.there)) hR).blk (Take.ro (A := Blk m2 (.cells [encI 2].toArray 3 (0, 0))) (by repeat' (first | exact Take.here | apply Take.there)) hR).blk (Take.ro (A := Blk m6 (.cells smallR.toArray 32 (0, 0))) (by repeat' (first | exact Take.here | apply Take.there)) hR).blk (Take.ro (A := Blk m8 (.cells [.string (strB [102]), .slice (some ⟨m1, 0, none⟩) 2 2, .slice (some ⟨m2, 0, none⟩) 1 1, .int .i64 3, .slice none 0 0, .slice (some ⟨m6, 0, none⟩) 3 3].toArray 45 (0, 0))) (by repeat' (first | exact Take.here | apply Take.there)) hR).blk)
      rintro _ _ ⟨a67, c67, rfl, rfl⟩
      refine ⟨.some (by repeat' (first | exact Cover.nil | exact Take.here | apply Cover.cons | apply Take.there)), ?_⟩
      refine m_effY rfl rfl rfl (e_bs (xs := [.const (.int .i64 0), .const (.int .i64 1)]) rfl rfl rfl (by rfl) (by rfl) rfl (by rfl)) rfl (fun _ _ => ?_)
      rintro ⟨b68, rfl, rfl⟩
      refine ⟨.some (by repeat' (first | exact Cover.nil | exact Take.here | apply Cover.cons | apply Take.there)), ?_⟩
      refine m_call (Hin := []) (Hr := ?hr7) (R := ?rr7) rfl (wantedY rfl rfl) rfl rfl rfl ?hin7 ?hc7 ?hk7
      case hin7 => repeat' (first | exact Cover.nil | exact Take.here | apply Cover.cons | apply Take.there)
      case hc7 => intro ρ' hρ hR; exact cN a67 (some ⟨b68, 0, none⟩) c67 (RSl.of_own (Take.ro (A := OwnSl 3 1 a67 2 c67 ([0, 1].map encI)) (by repeat' (first | exact Take.here | apply Take.there)) hR)) (RSl.of_blk (T := 3) (cs := [.int .i64 0, .int .i64 1]) (k := 2) (size := 1) (Take.ro (A := Blk b68 (.cells [.int .i64 0, .int .i64 1].toArray 3 (0, 0))) (by repeat' (first | exact Take.here | apply Take.there)) hR).blk (Nat.le_refl _))
      rintro _ _ ⟨rfl, rfl⟩
      refine ⟨.some (by repeat' (first | exact Cover.nil | exact Take.here | apply Cover.cons | apply Take.there)), ?_⟩
      first | refine m_float0 rfl (fun _ _ => p_pickt rfl rfl) rfl ?_ | refine m_float0 rfl (fun _ _ => p_pickf rfl rfl) rfl ?_
      refine m_float0 rfl (fun _ _ => p_move rfl) rfl ?_
      first | refine m_yes rfl rfl rfl (p_loadO (by rfl) rfl (by first | (apply Has.own; (repeat' (first | exact Take.here | apply Take.there)); done) | exact Has.ro (by assumption)) (by rfl)) rfl ?_ | refine m_yes rfl rfl rfl (p_loadN (by rfl) rfl (by first | (apply Has.own; (repeat' (first | exact Take.here | apply Take.there)); done) | exact Has.ro (by assumption)) (by first | rfl | assumption)) rfl ?_
      first | refine m_yes rfl rfl rfl (p_loadO (by rfl) rfl (by first | (apply Has.own; (repeat' (first | exact Take.here | apply Take.there)); done) | exact Has.ro (by assumption)) (by rfl)) rfl ?_ | refine m_yes rfl rfl rfl (p_loadN (by rfl) rfl (by first | (apply Has.own; (repeat' (first | exact Take.here | apply Take.there)); done) | exact Has.ro (by assumption)) (by first | rfl | assumption)) rfl ?_
      refine m_call (Hin := []) (Hr := ?hr8) (R := ?rr8) rfl (wantedY rfl rfl) rfl rfl rfl ?hin8 ?hc8 ?hk8
      case hin8 => repeat' (first | exact Cover.nil | exact Take.here | apply Cover.cons | apply Take.there)
      case hc8 => intro ρ' hρ hR; exact cS (small_im (Take.ro (A := Blk m1 (.cells [encI 2, encI 2].toArray 3 (0, 0))) (by repeat' (first | exact Take.here | apply Take.there)) hR).blk (Take.ro (A := Blk m2 (.cells [encI 2].toArray 3 (0, 0))) (by repeat' (first | exact Take.here | apply Take.there)) hR).blk (Take.ro (A := Blk m6 (.cells smallR.toArray 32 (0, 0))) (by repeat' (first | exact Take.here | apply Take.there)) hR).blk (Take.ro (A := Blk m8 (.cells [.string (strB [102]), .slice (some ⟨m1, 0, none⟩) 2 2, .slice (some ⟨m2, 0, none⟩) 1 1, .int .i64 3, .slice none 0 0, .slice (some ⟨m6, 0, none⟩) 3 3].toArray 45 (0, 0))) (by repeat' (first | exact Take.here | apply Take.there)) hR).blk)
      rintro _ _ ⟨rfl, rfl⟩
      refine ⟨.none (by kernel_rfl), ?_⟩
      first | refine m_float0 rfl (fun _ _ => p_pickt rfl rfl) rfl ?_ | refine m_float0 rfl (fun _ _ => p_pickf rfl rfl) rfl ?_
      refine m_float0 rfl (fun _ _ => p_assign rfl) rfl ?_
      refine m_nil ?_
      refine g_qn ?_
      exact g_joined () (by (repeat (first | exact trivial | refine ⟨by rfl, ?_⟩)); done) (by repeat' (first | exact Cover.nil | exact Take.here | apply Cover.cons | apply Take.there)) trivial
    refine m_effY rfl rfl rfl (e_bs (xs := [.const (.int .i64 0), .const (.int .i64 1)]) rfl rfl rfl (by rfl) (by rfl) rfl (by rfl)) rfl (fun _ _ => ?_)
    rintro ⟨b68, rfl, rfl⟩
    refine ⟨.some (by repeat' (first | exact Cover.nil | exact Take.here | apply Cover.cons | apply Take.there)), ?_⟩
    refine m_call (Hin := []) (Hr := ?hr9) (R := ?rr9) rfl (wantedY rfl rfl) rfl rfl rfl ?hin9 ?hc9 ?hk9
    case hin9 => repeat' (first | exact Cover.nil | exact Take.here | apply Cover.cons | apply Take.there)
    case hc9 => intro ρ' hρ hR; exact cU (small_im (Take.ro (A := Blk m1 (.cells [encI 2, encI 2].toArray 3 (0, 0))) (by repeat' (first | exact Take.here | apply Take.there)) hR).blk (Take.ro (A := Blk m2 (.cells [encI 2].toArray 3 (0, 0))) (by repeat' (first | exact Take.here | apply Take.there)) hR).blk (Take.ro (A := Blk m6 (.cells smallR.toArray 32 (0, 0))) (by repeat' (first | exact Take.here | apply Take.there)) hR).blk (Take.ro (A := Blk m8 (.cells [.string (strB [102]), .slice (some ⟨m1, 0, none⟩) 2 2, .slice (some ⟨m2, 0, none⟩) 1 1, .int .i64 3, .slice none 0 0, .slice (some ⟨m6, 0, none⟩) 3 3].toArray 45 (0, 0))) (by repeat' (first | exact Take.here | apply Take.there)) hR).blk)
    rintro _ _ ⟨a67, c67, rfl, rfl⟩
    refine ⟨.some (by repeat' (first | exact Cover.nil | exact Take.here | apply Cover.cons | apply Take.there)), ?_⟩
    refine m_call (Hin := []) (Hr := ?hr10) (R := ?rr10) rfl (wantedY rfl rfl) rfl rfl rfl ?hin10 ?hc10 ?hk10
    case hin10 => repeat' (first | exact Cover.nil | exact Take.here | apply Cover.cons | apply Take.there)
    case hc10 => intro ρ' hρ hR; exact cN a67 (some ⟨b68, 0, none⟩) c67 (RSl.of_own (Take.ro (A := OwnSl 3 1 a67 2 c67 ([0, 1].map encI)) (by repeat' (first | exact Take.here | apply Take.there)) hR)) (RSl.of_blk (T := 3) (cs := [.int .i64 0, .int .i64 1]) (k := 2) (size := 1) (Take.ro (A := Blk b68 (.cells [.int .i64 0, .int .i64 1].toArray 3 (0, 0))) (by repeat' (first | exact Take.here | apply Take.there)) hR).blk (Nat.le_refl _))
    rintro _ _ ⟨rfl, rfl⟩
    refine ⟨.some (by repeat' (first | exact Cover.nil | exact Take.here | apply Cover.cons | apply Take.there)), ?_⟩
    first | refine m_float0 rfl (fun _ _ => p_pickt rfl rfl) rfl ?_ | refine m_float0 rfl (fun _ _ => p_pickf rfl rfl) rfl ?_
    refine m_float0 rfl (fun _ _ => p_move rfl) rfl ?_
    first | refine m_yes rfl rfl rfl (p_loadO (by rfl) rfl (by first | (apply Has.own; (repeat' (first | exact Take.here | apply Take.there)); done) | exact Has.ro (by assumption)) (by rfl)) rfl ?_ | refine m_yes rfl rfl rfl (p_loadN (by rfl) rfl (by first | (apply Has.own; (repeat' (first | exact Take.here | apply Take.there)); done) | exact Has.ro (by assumption)) (by first | rfl | assumption)) rfl ?_
    first | refine m_yes rfl rfl rfl (p_loadO (by rfl) rfl (by first | (apply Has.own; (repeat' (first | exact Take.here | apply Take.there)); done) | exact Has.ro (by assumption)) (by rfl)) rfl ?_ | refine m_yes rfl rfl rfl (p_loadN (by rfl) rfl (by first | (apply Has.own; (repeat' (first | exact Take.here | apply Take.there)); done) | exact Has.ro (by assumption)) (by first | rfl | assumption)) rfl ?_
    refine m_call (Hin := []) (Hr := ?hr11) (R := ?rr11) rfl (wantedY rfl rfl) rfl rfl rfl ?hin11 ?hc11 ?hk11
    case hin11 => repeat' (first | exact Cover.nil | exact Take.here | apply Cover.cons | apply Take.there)
    case hc11 => intro ρ' hρ hR; exact cS (small_im (Take.ro (A := Blk m1 (.cells [encI 2, encI 2].toArray 3 (0, 0))) (by repeat' (first | exact Take.here | apply Take.there)) hR).blk (Take.ro (A := Blk m2 (.cells [encI 2].toArray 3 (0, 0))) (by repeat' (first | exact Take.here | apply Take.there)) hR).blk (Take.ro (A := Blk m6 (.cells smallR.toArray 32 (0, 0))) (by repeat' (first | exact Take.here | apply Take.there)) hR).blk (Take.ro (A := Blk m8 (.cells [.string (strB [102]), .slice (some ⟨m1, 0, none⟩) 2 2, .slice (some ⟨m2, 0, none⟩) 1 1, .int .i64 3, .slice none 0 0, .slice (some ⟨m6, 0, none⟩) 3 3].toArray 45 (0, 0))) (by repeat' (first | exact Take.here | apply Take.there)) hR).blk)
    rintro _ _ ⟨rfl, rfl⟩
    refine ⟨.none (by kernel_rfl), ?_⟩
    first | refine m_float0 rfl (fun _ _ => p_pickt rfl rfl) rfl ?_ | refine m_float0 rfl (fun _ _ => p_pickf rfl rfl) rfl ?_
    refine m_float0 rfl (fun _ _ => p_assign rfl) rfl ?_
    refine m_nil ?_
    refine g_qn ?_
    exact g_joined () (by (repeat (first | exact trivial | refine ⟨by rfl, ?_⟩)); done) (by repeat' (first | exact Cover.nil | exact Take.here | apply Cover.cons | apply Take.there)) trivial
  rintro _ -
  refine g_qt ?_
  refine g_ret ?_
  exact g_post (Ho := []) (rs := [.tmp 0]) rfl (.tmp rfl .nil) ⟨rfl, rfl⟩ .nil
end Go.Proofs.YtcnfcoojmbjdlaaGreatDoor
/- Chapter 26: the table of operations in a world that meets the row's list. Conditions: none. -/
namespace Go.Proofs.YtcnfcoojmbjdlaaGreatDoor
set_option maxRecDepth 8000
set_option linter.unusedVariables false
set_option linter.unusedSimpArgs false
set_option linter.unusedSectionVars false
open Go Go.Z Go.Z.Asm Go.RowKit

def opD {H : Type} (r : List UInt8 × List Nat × Nat) : DataW H := .agg [.lit (.string r.1), Lib.tabData .i64 (r.2.1.map fun k : Nat => (k : Int)), .lit (.int .i64 r.2.2)]
def encO (r : List UInt8 × List Nat × Nat) : List Value := .string (strB r.1) :: (r.2.1.map fun k : Nat => Value.int .i64 k) ++ [.int .i64 r.2.2]
theorem ops_laid : (Rows.laid_synchrony_asm_operations : DataW Unit) = .agg (opT.map opD) := rfl
theorem opsC_enc : opsC = opT.flatMap encO := rfl
theorem op_fields : ∃ f0 f1 f2 : Field, Tryz.prog.underlying 62 = some (.struct #[f0, f1, f2]) ∧ f0.type = 9 ∧ f0.offset = 0 ∧ f1.type = 60 ∧ f1.offset = 1 ∧ f2.type = 3 ∧ f2.offset = 5 := ⟨_, _, _, Tryz.underlying62, rfl, rfl, rfl, rfl, rfl, rfl⟩
theorem op_chunk {W : World} {fuel : Nat} {c : List Value} {r : List UInt8 × List Nat × Nat} {p : List MemPlace} (h : DataW.trod (H := Unit) (fun _ => ()) Tryz.prog W 0 (fun _ => true) false fuel 62 c = some (opD r, p)) : c = encO r := by
  obtain ⟨f0, f1, f2, hu, t0, o0, t1, o1, t2, o2⟩ := op_fields
  have c6 : Tryz.prog.cellsOf 62 = 6 := by kernel_rfl
  have c1 : Tryz.prog.cellsOf 9 = 1 := by kernel_rfl
  have c4 : Tryz.prog.cellsOf 60 = 4 := by kernel_rfl
  have ci : Tryz.prog.cellsOf 3 = 1 := by kernel_rfl
  have us : Tryz.prog.underlying 9 = some .string := Tryz.underlying9
  have ui : Tryz.prog.underlying 3 = some (.int .i64) := Tryz.underlying3
  have ua : Tryz.prog.underlying 60 = some (.array 4 3) := Tryz.underlying60
  cases fuel with
  | zero => simp [DataW.trod] at h
  | succ fuel =>
    simp only [DataW.trod, hu, c6] at h
    split at h
    · rename_i hl
      simp only [List.mapM_cons, List.mapM_nil, Option.bind_eq_bind, Option.pure_def, Option.map_eq_some_iff, Option.bind_eq_some_iff, Option.some.injEq, t0, o0, t1, o1, t2, o2, c1, c4, ci] at h
      obtain ⟨xs, ⟨x0, h0, ys, ⟨x1, h1, zs, ⟨x2, h2, us', hn, rfl⟩, rfl⟩, rfl⟩, he⟩ := h
      subst hn
      have hd := congrArg Prod.fst he
      simp only [List.map_cons, List.map_nil, opD, DataW.agg.injEq, List.cons.injEq, and_true] at hd
      obtain ⟨d0, d1, d2⟩ := hd
      obtain ⟨x0a, x0b⟩ := x0
      obtain ⟨x1a, x1b⟩ := x1
      obtain ⟨x2a, x2b⟩ := x2
      dsimp only at d0 d1 d2
      subst d0; subst d1; subst d2
      have e1 := Lib.cells_of_tab ua ui ci c4 h1
      obtain ⟨z, e2, e3, _⟩ := DataW.trod_int ui h2
      match c, hl with
      | [v0, v1, v2, v3, v4, v5], _ =>
        have e0 : v0 = .string (strB r.1) := by
          cases fuel with
          | zero => simp [DataW.trod] at h0
          | succ f =>
            simp only [DataW.trod, us, List.drop_zero, List.take_succ_cons, List.take_zero] at h0
            cases v0 with
            | string s =>
              dsimp only at h0
              split at h0
              · have := congrArg (Option.map Prod.fst) h0
                simp at this
                unfold strB
                rw [← this]
              · cases h0
            | _ => simp at h0
        have e1' : [v1, v2, v3, v4] = r.2.1.map fun k : Nat => Value.int .i64 k := by
          have := e1
          rw [List.map_map] at this
          exact this
        have e2' : v5 = .int .i64 z := by
          have : [v5] = [Value.int .i64 z] := e2
          exact (List.cons.inj this).1
        have e3' : z = (r.2.2 : Int) := by
          have := congrArg Prod.fst e3
          simp at this
          exact this.symm
        subst e0; subst e2'; subst e3'
        unfold encO
        rw [← e1']; rfl
    · cases h
theorem ops_of {W : World} {rest : List (String × DataW Unit)} (h : laidMet Tryz.prog (("synchrony/asm.operations", Rows.laid_synchrony_asm_operations) :: rest) W) : OpsK (Old W) := by
  obtain ⟨ps, ⟨g, t, cs, fuel, p, q, hg, hty, hvar, hd, _, _⟩, _, hrow⟩ := h
  have hg' : Tryz.prog.globalNamed "synchrony/asm.operations" = some 0 := by kernel_rfl
  obtain rfl := Option.some.inj (hg'.symm.trans hg)
  have hty' : (Tryz.prog.globals[0]?).map (·.type) = some 93 := by kernel_rfl
  obtain rfl := Option.some.inj (hty'.symm.trans hty)
  have ua : Tryz.prog.underlying 93 = some (.array 11 62) := Tryz.underlying93
  have c6 : Tryz.prog.cellsOf 62 = 6 := by kernel_rfl
  have c66 : Tryz.prog.cellsOf 93 = 66 := by kernel_rfl
  obtain ⟨xs, m, -, hx, hl, hxl, hch⟩ := DataW.trod_array ua hd
  rw [c66] at hl
  simp only [c6] at hch
  have hxs : xs.map (·.1) = opT.map opD := by
    have := congrArg Prod.fst hx
    rw [ops_laid] at this
    simpa using this.symm
  have hcs : cs.toList = opsC := by
    have key : ∀ i, i < 11 → (cs.toList.drop (i * 6)).take 6 = encO (opT.getD i ([], [], 0)) := fun i hi => by
      have h1 := hch i hi
      have hi2 : i < opT.length := hi
      have h2 : (xs[i]?).map (·.1) = some (opD opT[i]) := by
        rw [← List.getElem?_map, hxs, List.getElem?_map, List.getElem?_eq_getElem hi2]; rfl
      cases hxi : xs[i]? with
      | none => rw [hxi] at h2; cases h2
      | some y =>
        rw [hxi] at h1 h2
        obtain ⟨y1, y2⟩ := y
        simp only [Option.map_some, Option.some.injEq] at h2
        subst h2
        rw [op_chunk h1, List.getD_eq_getElem?_getD, List.getElem?_eq_getElem hi2]; rfl
    have len6 : ∀ i, i < 11 → (encO (opT.getD i ([], [], 0))).length = 6 := by decide
    apply List.ext_getElem?
    intro i
    by_cases hi : i < 66
    · have h1 := key (i / 6) (by omega)
      have h2 : cs.toList[i]? = ((cs.toList.drop (i / 6 * 6)).take 6)[i % 6]? := by
        rw [List.getElem?_take, if_pos (Nat.mod_lt _ (by decide)), List.getElem?_drop]
        congr 1; omega
      rw [h2, h1]
      have all : ∀ i, i < 66 → (encO (opT.getD (i / 6) ([], [], 0)))[i % 6]? = opsC[i]? := by
        intro i hi
        have e1 : opsC[i]? = ((opsC.drop (i / 6 * 6)).take 6)[i % 6]? := by
          rw [List.getElem?_take, if_pos (Nat.mod_lt _ (by decide)), List.getElem?_drop]
          congr 1; omega
        rw [e1]
        have hq : i / 6 < 11 := by omega
        generalize i / 6 = q at hq
        congr 1
        match q, hq with
        | 0, _ => rfl
        | 1, _ => rfl
        | 2, _ => rfl
        | 3, _ => rfl
        | 4, _ => rfl
        | 5, _ => rfl
        | 6, _ => rfl
        | 7, _ => rfl
        | 8, _ => rfl
        | 9, _ => rfl
        | 10, _ => rfl
        | q + 11, h => omega
      exact all i hi
    · rw [List.getElem?_eq_none (by omega), List.getElem?_eq_none (by show 66 ≤ i; omega)]
  unfold World.var? at hvar
  rw [hg'] at hvar
  simp only [Option.bind_some] at hvar
  cases hb : W.heap[0]? with
  | none => rw [hb] at hvar; cases hvar
  | some o =>
    rw [hb] at hvar
    cases o with
    | cells c T fz =>
      refine ⟨T, fz, ?_⟩
      show W.heap[0]? = _
      have : c = cs := by simpa using hvar
      rw [hb, this, ← hcs]
    | _ => simp at hvar
end Go.Proofs.YtcnfcoojmbjdlaaGreatDoor
/- What the rows list of the library's variables: a world that has it; what a walk knows of it. Conditions: none. -/
namespace Go.Proofs.YtcnfcoojmbjdlaaGreatDoor
set_option maxRecDepth 8000
set_option linter.unusedVariables false
set_option linter.unusedSimpArgs false
set_option linter.unusedSectionVars false
open Go Go.Z Go.Z.Asm Go.RowKit

def synS : ByteArray := ⟨#[105, 110, 118, 97, 108, 105, 100, 32, 115, 121, 110, 116, 97, 120]⟩
def rngS : ByteArray := ⟨#[118, 97, 108, 117, 101, 32, 111, 117, 116, 32, 111, 102, 32, 114, 97, 110, 103, 101]⟩
/-- the cells of a listed array of numbers -/
def cellsD : DataW Unit → Array Value
  | .agg l => (l.flatMap fun d => match d with
    | .lit (.int k n) => [Value.int k n]
    | .agg m => m.map fun d => match d with | .lit (.int k n) => Value.int k n | _ => .int .i64 0
    | _ => []).toArray
  | _ => #[]
noncomputable def low : Nat := (World.holding Tryz.prog default ⟨#[], #[], []⟩).heap.size
noncomputable def laidWorld (os : Os) : World :=
  let w0 := World.holding Tryz.prog os ⟨#[.cells #[.string synS] 182, .cells #[.string rngS] 182], #[], []⟩
  let put (h : Array Obj) (g : Nat) (cs : Array Value) : Array Obj := h.modify g fun
    | .cells _ t frozen => .cells cs t frozen
    | o => o
  { w0 with heap := put (put (put (put (put (put (put (put w0.heap 0 opsC.toArray) 5 #[.iface 180 (.pointer (some ⟨low, 0, none⟩))]) 6 #[.iface 180 (.pointer (some ⟨low + 1, 0, none⟩))])
    2 (cellsD Rows.laid_internal_strconv_uint64pow10)) 7 (cellsD Rows.laid_math_bits_deBruijn32tab)) 8 (cellsD Rows.laid_math_bits_deBruijn64tab)) 4 (cellsD Rows.laid_unicode_utf8_acceptRanges)) 3 (cellsD Rows.laid_unicode_utf8_first) }
set_option maxRecDepth 1000000 in
theorem laidWorld_met (os : Os) (args : Array Value) : laidMet Tryz.prog Rows.asmSameRow.laid ((laidWorld os).forCall (fun _ _ => 0) ⟨#[], args, []⟩).memory :=
  laidMet_of_run' 10 (by kernel_rfl) (by kernel_rfl)

theorem knows_var {n : String} {W : World} {cs : Array Value} (h : W.var? Tryz.prog n = some cs) : Knows (Old W) fun w => w.var? Tryz.prog n = some cs := by
  intro w hw
  unfold World.var? at h ⊢
  cases hg : Tryz.prog.globalNamed n with
  | none => rw [hg] at h; cases h
  | some g =>
    rw [hg] at h
    simp only [Option.bind_some] at h ⊢
    cases hb : W.heap[g]? with
    | none => rw [hb] at h; cases h
    | some o => rw [hw g o hb]; rw [hb] at h; exact h
theorem knows_cell {W : World} {g : Nat} {v : Value} (h : W.cell? ⟨g, 0, none⟩ = some v) : Knows (Old W) fun w => w.cell? ⟨g, 0, none⟩ = some v := by
  intro w hw
  unfold World.cell? at h ⊢
  cases hb : W.heap[g]? with
  | none => simp [hb] at h
  | some o => have := hw g o hb; simp only [hb, this] at h ⊢; exact h
theorem starErr : "*" ++ "errors.errorString" = "*errors.errorString" := by decide
theorem rowErr (u : TypeId) (h : Tryz.prog.typeName? 3 u = some "*errors.errorString") : u = 180 := 
  typeName_ptr_named (nm := "errors.errorString") (by rw [starErr]; kernel_rfl) (by kernel_rfl) (by decide) u (by rw [starErr]; exact h)
theorem libA_of {W : World} (hL : laidMet Tryz.prog Rows.asmSameRow.laid W) (hS : W.ShapedOpen Tryz.prog) : LibA (Old W) := by
  have h2 := laidMet.tail (laidMet.tail hL)
  have ht := Lib.tabIs_of_head (name := "internal/strconv.uint64pow10") (k := .u64) (zs := Lib.pow10Tab) (g := 2) (t := 164) (e := 122) (n := 20) (by kernel_rfl) (by kernel_rfl) Tryz.underlying164 Tryz.underlying122 (by kernel_rfl) (by kernel_rfl) h2
  have h3 := laidMet.tail h2
  obtain ⟨a1, s1, hv1, -, -, -⟩ := laid_sentinel (laidMet.tail h3) (g := 6) (by kernel_rfl) (ti := 127) (by kernel_rfl) Tryz.underlying127 rowErr Tryz.underlying180 Tryz.underlying182 rfl rfl Tryz.underlying9 (by kernel_rfl) (by kernel_rfl)
  obtain ⟨a0, s0, hv0, -, -, -⟩ := laid_sentinel (laidMet.tail (laidMet.tail h3)) (g := 5) (by kernel_rfl) (ti := 127) (by kernel_rfl) Tryz.underlying127 rowErr Tryz.underlying180 Tryz.underlying182 rfl rfl Tryz.underlying9 (by kernel_rfl) (by kernel_rfl)
  have ho := ops_of (laidMet.tail (laidMet.tail (laidMet.tail h3)))
  obtain ⟨m, hm⟩ := cell_of_shapedOpen_int (g := 1) (t := 3) (zero := #[.int .i64 0]) (k := .i64) hS (of_decide_eq_true (by kernel_rfl)) (by kernel_rfl) rfl (by kernel_rfl) (by kernel_rfl) Tryz.underlying3
  exact ⟨ho, knows_var ht, ⟨_, _, knows_var hv0⟩, ⟨_, _, knows_var hv1⟩, m, knows_cell hm⟩
end Go.Proofs.YtcnfcoojmbjdlaaGreatDoor
namespace Go.Z
set_option maxRecDepth 8000
set_option linter.unusedVariables false
set_option linter.unusedSimpArgs false
set_option linter.unusedSectionVars false
open Go
variable {H : Type} {enc : TypeId × Value → H}
/-- the wrap of a row with listed variables, the world's shape kept -/
theorem wrap_shaped {a : Assume} {C : Checked} {os : Os} {f : FuncId} {fn : Func} {s : ChangeSpec} {conds : List PathCond} {apart fresh handsOn again : Bool} {X : World → Array Value → Prop}
    (hX : ∀ (w w' : World) (args : Array Value), w.heap = w'.heap → X w args → X w' args)
    (own : ownKnob C.prog.godebug = none) (started : os.Started) (noInit : C.prog.inits.idxOf? f = none) (hfn : C.prog.funcs[f]? = some fn)
    (witness : ∃ (w : World) (tape : Tape) (i : Input), w.os = os ∧ (w.forCall tape i).Shaped C.prog ∧ i.vars = [] ∧ Input.okWide C.prog (w.forCall tape i) .any w.heap.size f i ∧
      ((s.pre enc C.prog fn conds apart (w.forCall tape i).memory i.args ∧ X (w.forCall tape i).memory i.args) ∧ sizedMet enc C.prog fn (OpenSpec.ofChange s) apart (w.forCall tape i).memory i.args) ∧ a.holds C.prog (lone (Frame.enter C.prog f i.args .normal) [] (w.forCall tape i)))
    (contract : ∀ (W : World) (base : Nat) (args : Array Value) (ds gs : List (DataW H)) (before : List MemPlace),
      (∀ (j : Nat) t v, fn.params[j]? = some t → args[j]? = some v → Value.okWide C.prog W .any base t v) →
      DataW.Whole enc C.prog fn.params.toList s.vars apart W args.toList ds gs before →
      conds.all (PathCond.test C.prog ⟨fn.params.toList, ds, s.plain.varTypes C.prog, gs⟩) = true →
      (DataW.weightsEach C.prog (fn.params.toList ++ s.plain.varTypes C.prog) (ds ++ gs)).all (· ≤ reachBytes) = true → X W args → W.ShapedOpen C.prog →
      a.holds C.prog (lone (Frame.enter C.prog f args .normal) [] W) →
      Calls C.prog f args W fun e W' => ∃ v, e = .returned v ∧ s.post enc C.prog fn apart fresh handsOn again W args v W') :
    ReturnsInHanded a C os f .any (fun w args => (s.pre enc C.prog fn conds apart w args ∧ X w args) ∧ sizedMet enc C.prog fn (OpenSpec.ofChange s) apart w args) (s.post enc C.prog fn apart fresh handsOn again) := by
  refine returnsInHanded_of_calls own started noInit witness ?_
  intro w tape i _ hsh _ hok hpre hholds
  obtain ⟨_, _, _, fn', hfn', _, _, _, _, hval⟩ := hok
  have e : fn' = fn := Option.some.inj (hfn'.symm.trans hfn)
  subst e
  obtain ⟨⟨⟨ds, gs, before, hw, hc⟩, hx⟩, hz⟩ := hpre
  have hw' := DataW.Whole.of_heap (w' := w.forCall tape i) (by rfl) hw
  refine (contract (w.forCall tape i) w.heap.size i.args ds gs before hval hw' hc (hz.weights hw) (hX _ _ _ (by rfl) hx) hsh hholds).mono fun e W' ⟨v, he, hp⟩ => ?_
  subst he
  exact ChangeSpec.post_blind hp
end Go.Z
/- Chapter 26: images, instructions as arguments. Conditions: none. -/
namespace Go.Z.Asm
set_option maxRecDepth 8000
set_option linter.unusedVariables false
set_option linter.unusedSimpArgs false
set_option linter.unusedSectionVars false
open Go Go.Z Go.Lib
theorem flat_at {k : Nat} : ∀ {xss : List (List Value)}, (∀ c ∈ xss, c.length = k) → ∀ i (hi : i < xss.length), (xss.flatten.drop (i * k)).take k = xss[i] ∧ i * k + k ≤ xss.flatten.length
  | c :: r, h, 0, _ => by
    have hc := h c List.mem_cons_self
    rw [Nat.zero_mul, List.drop_zero, List.flatten_cons]
    exact ⟨by rw [List.take_append_of_le_length (by omega), List.take_of_length_le (by omega)]; rfl, by rw [List.length_append]; omega⟩
  | c :: r, h, i + 1, hi => by
    have hc := h c List.mem_cons_self
    obtain ⟨h1, h2⟩ := flat_at (fun c hc => h c (List.mem_cons_of_mem _ hc)) i (by simpa using hi)
    have e : (i + 1) * k = c.length + i * k := by rw [hc, Nat.add_mul]; omega
    rw [List.flatten_cons, e, List.drop_append, List.drop_of_length_le (by omega), List.nil_append, Nat.add_sub_cancel_left]
    exact ⟨h1, by rw [List.length_append]; omega⟩
theorem rts_of {ρ : Nat → Obj → Prop} {ra : Option Addr} {xss : List (List Value)} (h6 : ∀ c ∈ xss, c.length = 6) (hr : RSl ρ 6 ra xss.length xss.flatten) {rts : List Rt} (hl : rts.length = xss.length) (hx : ∀ k (h1 : k < xss.length) (h2 : k < rts.length), RtR ρ xss[k] rts[k]) : RtsR ρ ra rts := fun h0 => by
  obtain ⟨_, b, off, cs, T, fz, hb⟩ := hr
  obtain ⟨r1, r2, r3⟩ := hb (by omega)
  refine ⟨b, off, cs, T, fz, r1, r2, fun k hk => ?_⟩
  have hk' : k < xss.length := by omega
  obtain ⟨e1, e2⟩ := flat_at h6 k hk'
  refine ⟨xss[k], hx k hk' hk, by rw [sub_of r3 (by decide) e2, e1], fun j v hj => ?_⟩
  have hj6 : j < 6 := by
    have := (List.getElem?_eq_some_iff.1 hj).1
    rw [h6 _ (List.getElem_mem hk')] at this; exact this
  rw [Nat.add_assoc]
  refine r3 _ _ ?_
  rw [← e1, List.getElem?_take, if_pos hj6, List.getElem?_drop] at hj
  exact hj
theorem choose_rows {α β : Type} {q : α → β → Prop} : ∀ {l : List α}, (∀ c ∈ l, ∃ x, q c x) → ∃ r : List β, r.length = l.length ∧ ∀ k (h1 : k < l.length) (h2 : k < r.length), q l[k] r[k]
  | [], _ => ⟨[], rfl, fun k h => absurd h (Nat.not_lt_zero k)⟩
  | c :: l, h => by
    obtain ⟨x, hx⟩ := h c List.mem_cons_self
    obtain ⟨r, hl, hr⟩ := choose_rows fun c hc => h c (List.mem_cons_of_mem _ hc)
    refine ⟨x :: r, by simp [hl], fun k h1 h2 => ?_⟩
    match k with
    | 0 => exact hx
    | k + 1 => exact hr k (by simpa using h1) (by simpa using h2)
end Go.Z.Asm
namespace Go.Proofs.YtcnfcoojmbjdlaaGreatDoor
set_option maxRecDepth 8000
set_option linter.unusedVariables false
set_option linter.unusedSimpArgs false
set_option linter.unusedSectionVars false
open Go Go.Z Go.Z.Asm
theorem rdw_int1 {H : Type} {enc : TypeId × Value → H} {W : World} {c : List Value} (h : Rdw enc Tryz.prog W 3 c) : ∃ x : Int, c = [encI x] ∧ I64 x := by
  obtain ⟨x, e, w⟩ := rd_int Tryz.underlying3 h.rdx
  exact ⟨x, e, wf_i64 w⟩
theorem rdw_ints {H : Type} {enc : TypeId × Value → H} {W : World} {c : List Value} (h : Rdw enc Tryz.prog W 22 c) : ∃ (a : Option Addr) (cap : Nat) (l : List Int), c = [.slice a l.length cap] ∧ RSl (Old W) 1 a l.length (l.map encI) ∧ l.length ≤ 17592186044416 ∧ ∀ x ∈ l, I64 x := by
  obtain ⟨a, cap, xss, h1, h2, h3, h4, h5, h6⟩ := rdw_slice (size := 1) Tryz.underlying22 (by kernel_rfl) (by decide) h
  obtain ⟨l, rfl, hl⟩ := rows_with I64 (fun x => [encI x]) (xss := xss) fun c hc => rdw_int1 (h4 c hc).2
  rw [show Tryz.prog.bytesOf 3 = 8 by kernel_rfl] at h6
  rw [List.length_map] at h1 h2 h5
  refine ⟨a, cap, l, h1, ?_, by omega, hl⟩
  rw [← List.flatMap_def, map_flat] at h5
  exact h5
theorem rdw_ins {H : Type} {enc : TypeId × Value → H} {W : World} {c : List Value} (h : Rdw enc Tryz.prog W 32 c) : ∃ i : Ins, c = encIns i ∧ I64 i.1 ∧ I64 i.2.1 ∧ I64 i.2.2.1 ∧ I64 i.2.2.2.1 ∧ I64 i.2.2.2.2 := by
  obtain ⟨hl, hf⟩ := rdw_struct Tryz.underlying32 h
  have h0 := hf 0 _ rfl
  have h1 := hf 1 _ rfl
  have h2 := hf 2 _ rfl
  have h3 := hf 3 _ rfl
  have h4 := hf 4 _ rfl
  have hl2 : c.length = 5 := hl
  match c, hl2 with
  | [u0, u1, u2, u3, u4], _ =>
    obtain ⟨a0, e0, i0⟩ := rdw_int1 (show Rdw enc Tryz.prog W 3 [u0] from h0)
    obtain ⟨a1, e1, i1⟩ := rdw_int1 (show Rdw enc Tryz.prog W 3 [u1] from h1)
    obtain ⟨a2, e2, i2⟩ := rdw_int1 (show Rdw enc Tryz.prog W 3 [u2] from h2)
    obtain ⟨a3, e3, i3⟩ := rdw_int1 (show Rdw enc Tryz.prog W 3 [u3] from h3)
    obtain ⟨a4, e4, i4⟩ := rdw_int1 (show Rdw enc Tryz.prog W 3 [u4] from h4)
    cases e0; cases e1; cases e2; cases e3; cases e4
    exact ⟨(a0, a1, a2, a3, a4), rfl, i0, i1, i2, i3, i4⟩
theorem rdw_code {H : Type} {enc : TypeId × Value → H} {W : World} {c : List Value} (h : Rdw enc Tryz.prog W 43 c) : ∃ (a : Option Addr) (cap : Nat) (l : List Ins), c = [.slice a l.length cap] ∧ RSl (Old W) 5 a l.length (l.flatMap encIns) ∧ l.length ≤ 17592186044416 ∧ ∀ i ∈ l, I64 i.1 ∧ I64 i.2.1 ∧ I64 i.2.2.1 ∧ I64 i.2.2.2.1 ∧ I64 i.2.2.2.2 := by
  obtain ⟨a, cap, xss, h1, h2, h3, h4, h5, h6⟩ := rdw_slice (size := 5) Tryz.underlying43 (by kernel_rfl) (by decide) h
  obtain ⟨l, rfl, hl⟩ := rows_with (fun i : Ins => I64 i.1 ∧ I64 i.2.1 ∧ I64 i.2.2.1 ∧ I64 i.2.2.2.1 ∧ I64 i.2.2.2.2) encIns (xss := xss) fun c hc => rdw_ins (h4 c hc).2
  rw [show Tryz.prog.bytesOf 32 = 40 by kernel_rfl] at h6
  rw [List.length_map] at h1 h2 h5
  refine ⟨a, cap, l, h1, ?_, by omega, hl⟩
  rw [List.flatMap_def]
  exact h5
theorem rdw_rt {H : Type} {enc : TypeId × Value → H} {W : World} {c : List Value} (h : Rdw enc Tryz.prog W 45 c) : ∃ x : Rt, RtR (Old W) c x ∧ RtOk x := by
  obtain ⟨hl, hf⟩ := rdw_struct Tryz.underlying45 h
  have h0 := hf 0 _ rfl
  have h1 := hf 1 _ rfl
  have h2 := hf 2 _ rfl
  have h3 := hf 3 _ rfl
  have h4 := hf 4 _ rfl
  have h5 := hf 5 _ rfl
  have hl2 : c.length = 6 := hl
  match c, hl2 with
  | [u0, u1, u2, u3, u4, u5], _ =>
    obtain ⟨s, e0, i0⟩ := rd_string Tryz.underlying9 (show Rdw enc Tryz.prog W 9 [u0] from h0).rdx
    obtain ⟨a1, c1, l1, e1, r1, n1, i1⟩ := rdw_ints (show Rdw enc Tryz.prog W 22 [u1] from h1)
    obtain ⟨a2, c2, l2, e2, r2, n2, i2⟩ := rdw_ints (show Rdw enc Tryz.prog W 22 [u2] from h2)
    obtain ⟨a3, e3, i3⟩ := rdw_int1 (show Rdw enc Tryz.prog W 3 [u3] from h3)
    obtain ⟨a4, c4, l4, e4, r4, n4, i4⟩ := rdw_ints (show Rdw enc Tryz.prog W 22 [u4] from h4)
    obtain ⟨a5, c5, l5, e5, r5, n5, i5⟩ := rdw_code (show Rdw enc Tryz.prog W 43 [u5] from h5)
    cases e0; cases e1; cases e2; cases e3; cases e4; cases e5
    have hm : maxLen = 9223372036854775807 := rfl
    exact ⟨(s.data.toList, l1, l2, a3, l4, l5), ⟨a1, c1, a2, c2, a4, c4, a5, c5, rfl, r1, r2, r4, r5⟩, ⟨by have hs : s.data.toList.length = s.size := rfl; dsimp only; omega, n1, n2, n4, n5, i1, i2, i3, i4, i5⟩⟩
theorem rd_image {H : Type} {enc : TypeId × Value → H} {W : World} {c : List Value} (h : Rdw enc Tryz.prog W 25 c) : ∃ (ea ra : Option Addr) (ec rc : Nat) (im : Im), c = [.slice ea im.1.length ec, .slice ra im.2.length rc] ∧ ImI (Old W) ea ra im := by
  obtain ⟨hl, hf⟩ := rdw_struct Tryz.underlying25 h
  have h0 := hf 0 _ rfl
  have h1 := hf 1 _ rfl
  have hl2 : c.length = 2 := hl
  match c, hl2 with
  | [u0, u1], _ =>
    obtain ⟨a0, c0, l0, e0, r0, n0, i0⟩ := rdw_ints (show Rdw enc Tryz.prog W 22 [u0] from h0)
    obtain ⟨a, cap, xss, k1, k2, k3, k4, k5, k6⟩ := rdw_slice (size := 6) Tryz.underlying23 (by kernel_rfl) (by decide) (show Rdw enc Tryz.prog W 23 [u1] from h1)
    rw [show Tryz.prog.bytesOf 45 = 120 by kernel_rfl] at k6
    obtain ⟨rts, hlr, hr⟩ := choose_rows (q := fun c x => RtR (Old W) c x ∧ RtOk x) (l := xss) fun c hc => rdw_rt (k4 c hc).2
    cases e0; cases k1
    refine ⟨a0, a, c0, cap, (l0, rts), by rw [← hlr], r0, rts_of (fun c hc => (k4 c hc).1) k5 hlr fun k h1 h2 => (hr k h1 h2).1, n0, by dsimp only; omega, i0, fun x hx => ?_⟩
    obtain ⟨k, hk, rfl⟩ := List.mem_iff_getElem.1 hx
    exact (hr k (by rw [← hlr]; exact hk) hk).2
end Go.Proofs.YtcnfcoojmbjdlaaGreatDoor
/- Chapter 26: the statements on equality, and on accepted images. Conditions: what the library's variables hold (LibA). -/
namespace Go.Proofs.YtcnfcoojmbjdlaaGreatDoor
set_option maxRecDepth 8000
set_option linter.unusedVariables false
set_option linter.unusedSimpArgs false
set_option linter.unusedSectionVars false
open Go Go.Z Go.Z.Asm Go.RowKit

theorem asame_ok {ρ : Nat → Obj → Prop} (hk : LibA ρ) {ea ra eb rb : Option Addr} {ec rc ed rd : Nat} {x y : Im} (hx : ImI ρ ea ra x) (hy : ImI ρ eb rb y) :
    Con Tryz.prog ρ 3 #[.agg #[.slice ea x.1.length ec, .slice ra x.2.length rc], .agg #[.slice eb y.1.length ed, .slice rb y.2.length rd]] [] (fun v _ => v = .bool true) := by
  have cS : ∀ {ρ' : Nat → Obj → Prop}, (∀ b o, ρ b o → ρ' b o) → Con Tryz.prog ρ' 12 #[.agg #[.slice ea x.1.length ec, .slice ra x.2.length rc], .agg #[.slice ea x.1.length ec, .slice ra x.2.length rc]] [] (fun v H => v = .bool true ∧ H = []) := fun hρ => by
    have := sameA_ok (ec := ec) (rc := rc) (ed := ec) (rd := rc) (hx.mono hρ) (hx.mono hρ)
    rw [decide_eq_true (p := x = x) rfl] at this
    exact this
  refine con_intro Tryz.func3 Tryz.call3 rfl Tryz.ntmps3 rfl (L := [(0, _), (1, _)]) rfl fun w hh => ?_
  refine g_seq ?_
  refine g_region ?_
  refine g_eff (e_box rfl (by rfl)) rfl (fun _ _ => ?_)
  rintro ⟨b2, rfl, rfl⟩
  refine g_eff (e_box rfl (by rfl)) rfl (fun _ _ => ?_)
  rintro ⟨b3, rfl, rfl⟩
  refine g_pure (p_assign rfl) rfl ?_
  refine g_nil ?_
  refine g_qt ?_
  refine g_seq ?_
  refine g_seq ?_
  refine g_region ?_
  first | refine g_pure (p_loadO (by rfl) rfl (by first | (apply Has.own; (repeat' (first | exact Take.here | apply Take.there)); done) | exact Has.ro (by assumption)) (by rfl)) rfl ?_ | refine g_pure (p_loadN (by rfl) rfl (by first | (apply Has.own; (repeat' (first | exact Take.here | apply Take.there)); done) | exact Has.ro (by assumption)) (by first | rfl | assumption)) rfl ?_
  refine g_call (Hin := []) (Hr := ?hr1) (R := ?rr1) rfl rfl rfl ?hin1 ?hc1 ?hk1
  case hin1 => repeat' (first | exact Cover.nil | exact Take.here | apply Cover.cons | apply Take.there)
  case hc1 => intro ρ' hρ hR; exact heavy_ok (ec := ec) (rc := rc) (hx.mono hρ)
  rintro _ _ ⟨hb6, rfl, rfl⟩
  refine g_pure (p_move rfl) rfl ?_
  refine g_split rfl rfl (fun h1 => ?_) (fun h1 => ?_)
  · refine g_no rfl rfl rfl rfl ?_
    refine g_no rfl rfl rfl rfl ?_
    first | refine g_pure (p_pickt rfl rfl) rfl ?_ | refine g_pure (p_pickf rfl rfl) rfl ?_
    refine g_nil ?_
    refine g_qt ?_
    refine g_ift rfl ?_
    refine g_seq ?_
    refine g_region ?_
    refine g_call (Hin := []) (Hr := ?hr2) (R := ?rr2) rfl rfl rfl ?hin2 ?hc2 ?hk2
    case hin2 => repeat' (first | exact Cover.nil | exact Take.here | apply Cover.cons | apply Take.there)
    case hc2 => intro ρ' hρ hR; exact lives_ok (hk.mono hρ)
    rintro _ _ ⟨rfl, rfl⟩
    refine g_pure (p_assign rfl) rfl ?_
    refine g_nil ?_
    refine g_qt ?_
    refine g_ret ?_
    refine g_qt_ret ?_
    exact g_post (rs := [.tmp 4]) rfl (.tmp rfl .nil) rfl (by repeat' (first | exact Cover.nil | exact Take.here | apply Cover.cons | apply Take.there))
  · refine g_yes rfl rfl ?_
    first | refine g_pure (p_loadO (by rfl) rfl (by first | (apply Has.own; (repeat' (first | exact Take.here | apply Take.there)); done) | exact Has.ro (by assumption)) (by rfl)) rfl ?_ | refine g_pure (p_loadN (by rfl) rfl (by first | (apply Has.own; (repeat' (first | exact Take.here | apply Take.there)); done) | exact Has.ro (by assumption)) (by first | rfl | assumption)) rfl ?_
    refine g_yes rfl rfl ?_
    refine g_call (Hin := []) (Hr := ?hr3) (R := ?rr3) rfl rfl rfl ?hin3 ?hc3 ?hk3
    case hin3 => repeat' (first | exact Cover.nil | exact Take.here | apply Cover.cons | apply Take.there)
    case hc3 => intro ρ' hρ hR; exact heavy_ok (ec := ed) (rc := rd) (hy.mono hρ)
    rintro _ _ ⟨hb9, rfl, rfl⟩
    first | refine g_pure (p_pickt rfl rfl) rfl ?_ | refine g_pure (p_pickf rfl rfl) rfl ?_
    refine g_nil ?_
    refine g_qt ?_
    refine g_ifL rfl (fun h3 => ?_) (fun h3 => ?_)
    · refine g_seq ?_
      refine g_region ?_
      refine g_call (Hin := []) (Hr := ?hr4) (R := ?rr4) rfl rfl rfl ?hin4 ?hc4 ?hk4
      case hin4 => repeat' (first | exact Cover.nil | exact Take.here | apply Cover.cons | apply Take.there)
      case hc4 => intro ρ' hρ hR; exact lives_ok (hk.mono hρ)
      rintro _ _ ⟨rfl, rfl⟩
      refine g_pure (p_assign rfl) rfl ?_
      refine g_nil ?_
      refine g_qt ?_
      refine g_ret ?_
      refine g_qt_ret ?_
      exact g_post (rs := [.tmp 4]) rfl (.tmp rfl .nil) rfl (by repeat' (first | exact Cover.nil | exact Take.here | apply Cover.cons | apply Take.there))
    · refine g_skip ?_
      refine g_qt ?_
      refine g_seq ?_
      refine m_begin0 (.fl 0 1 (.fl 1 1 (.fl 3 1 (.fl 4 1 (.ef 2 (.ef 5 (.fl 6 0 (.fl 7 0 (.fl 8 1 (.fl 9 1 (.ef 10 (.fl 11 0 (.fl 12 0 (.ef 13 (.fl 14 0 (.fl 15 0 .done)))))))))))))))) (by kernel_rfl) (by kernel_rfl) ?_
      first | refine m_float rfl (p_loadO (by rfl) rfl (by first | (apply Has.own; (repeat' (first | exact Take.here | apply Take.there)); done) | exact Has.ro (by assumption)) (by rfl)) rfl ?_ | refine m_float rfl (p_loadN (by rfl) rfl (by first | (apply Has.own; (repeat' (first | exact Take.here | apply Take.there)); done) | exact Has.ro (by assumption)) (by first | rfl | assumption)) rfl ?_
      first | refine m_float rfl (p_loadO (by rfl) rfl (by first | (apply Has.own; (repeat' (first | exact Take.here | apply Take.there)); done) | exact Has.ro (by assumption)) (by rfl)) rfl ?_ | refine m_float rfl (p_loadN (by rfl) rfl (by first | (apply Has.own; (repeat' (first | exact Take.here | apply Take.there)); done) | exact Has.ro (by assumption)) (by first | rfl | assumption)) rfl ?_
      first | refine m_float rfl (p_loadO (by rfl) rfl (by first | (apply Has.own; (repeat' (first | exact Take.here | apply Take.there)); done) | exact Has.ro (by assumption)) (by rfl)) rfl ?_ | refine m_float rfl (p_loadN (by rfl) rfl (by first | (apply Has.own; (repeat' (first | exact Take.here | apply Take.there)); done) | exact Has.ro (by assumption)) (by first | rfl | assumption)) rfl ?_
      first | refine m_float rfl (p_loadO (by rfl) rfl (by first | (apply Has.own; (repeat' (first | exact Take.here | apply Take.there)); done) | exact Has.ro (by assumption)) (by rfl)) rfl ?_ | refine m_float rfl (p_loadN (by rfl) rfl (by first | (apply Has.own; (repeat' (first | exact Take.here | apply Take.there)); done) | exact Has.ro (by assumption)) (by first | rfl | assumption)) rfl ?_
      refine m_call (Hin := []) (Hr := ?hr5) (R := ?rr5) rfl wantedN rfl rfl rfl ?hin5 ?hc5 ?hk5
      case hin5 => repeat' (first | exact Cover.nil | exact Take.here | apply Cover.cons | apply Take.there)
      case hc5 => intro ρ' hρ hR; exact sameA_ok (ec := ec) (rc := rc) (ed := ed) (rd := rd) (hx.mono hρ) (hy.mono hρ)
      rintro _ _ ⟨rfl, rfl⟩
      refine ⟨.some (by repeat' (first | exact Cover.nil | exact Take.here | apply Cover.cons | apply Take.there)), ?_⟩
      refine m_call (Hin := []) (Hr := ?hr6) (R := ?rr6) rfl wantedN rfl rfl rfl ?hin6 ?hc6 ?hk6
      case hin6 => repeat' (first | exact Cover.nil | exact Take.here | apply Cover.cons | apply Take.there)
      case hc6 => intro ρ' hρ hR; exact rsame_ok (ec := ec) (rc := rc) (ed := ed) (rd := rd) (hx.mono hρ) (hy.mono hρ)
      rintro _ _ ⟨rfl, rfl⟩
      refine ⟨.some (by repeat' (first | exact Cover.nil | exact Take.here | apply Cover.cons | apply Take.there)), ?_⟩
      refine m_float0 rfl (fun _ _ => p_eqlbT (by rfl) rfl rfl rfl) rfl ?_
      refine m_float0 rfl (fun _ _ => p_move rfl) rfl ?_
      first | refine m_yes rfl rfl rfl (p_loadO (by rfl) rfl (by first | (apply Has.own; (repeat' (first | exact Take.here | apply Take.there)); done) | exact Has.ro (by assumption)) (by rfl)) rfl ?_ | refine m_yes rfl rfl rfl (p_loadN (by rfl) rfl (by first | (apply Has.own; (repeat' (first | exact Take.here | apply Take.there)); done) | exact Has.ro (by assumption)) (by first | rfl | assumption)) rfl ?_
      first | refine m_yes rfl rfl rfl (p_loadO (by rfl) rfl (by first | (apply Has.own; (repeat' (first | exact Take.here | apply Take.there)); done) | exact Has.ro (by assumption)) (by rfl)) rfl ?_ | refine m_yes rfl rfl rfl (p_loadN (by rfl) rfl (by first | (apply Has.own; (repeat' (first | exact Take.here | apply Take.there)); done) | exact Has.ro (by assumption)) (by first | rfl | assumption)) rfl ?_
      refine m_call (Hin := []) (Hr := ?hr7) (R := ?rr7) rfl (wantedY rfl rfl) rfl rfl rfl ?hin7 ?hc7 ?hk7
      case hin7 => repeat' (first | exact Cover.nil | exact Take.here | apply Cover.cons | apply Take.there)
      case hc7 => intro ρ' hρ hR; exact cS hρ
      rintro _ _ ⟨rfl, rfl⟩
      refine ⟨.none (by kernel_rfl), ?_⟩
      first | refine m_float0 rfl (fun _ _ => p_pickt rfl rfl) rfl ?_ | refine m_float0 rfl (fun _ _ => p_pickf rfl rfl) rfl ?_
      refine m_float0 rfl (fun _ _ => p_move rfl) rfl ?_
      refine m_call (Hin := []) (Hr := ?hr8) (R := ?rr8) rfl (wantedY rfl rfl) rfl rfl rfl ?hin8 ?hc8 ?hk8
      case hin8 => repeat' (first | exact Cover.nil | exact Take.here | apply Cover.cons | apply Take.there)
      case hc8 => intro ρ' hρ hR; exact lives_ok (hk.mono hρ)
      rintro _ _ ⟨rfl, rfl⟩
      refine ⟨.none (by kernel_rfl), ?_⟩
      first | refine m_float0 rfl (fun _ _ => p_pickt rfl rfl) rfl ?_ | refine m_float0 rfl (fun _ _ => p_pickf rfl rfl) rfl ?_
      refine m_float0 rfl (fun _ _ => p_assign rfl) rfl ?_
      refine m_nil ?_
      refine g_qt ?_
      refine g_ret ?_
      exact g_post (rs := [.tmp 4]) rfl (.tmp rfl .nil) rfl (by repeat' (first | exact Cover.nil | exact Take.here | apply Cover.cons | apply Take.there))
end Go.Proofs.YtcnfcoojmbjdlaaGreatDoor
/- Chapter 26, plain: what accepted images promise. Conditions: none. -/
namespace Go.Z.Asm
set_option maxRecDepth 8000
set_option linter.unusedVariables false
set_option linter.unusedSimpArgs false
set_option linter.unusedSectionVars false
open Go Go.Z Go.Lib

theorem operands_in {x n : Int} (h : operandsP x = n) (h0 : 0 < n) : 1 ≤ x ∧ x ≤ 16 := by
  unfold operandsP at h
  split at h
  · omega
  · split at h
    · omega
    · omega
theorem form_known {len at' : Int} {i : Ins} (h : formP len at' i = true) : knownP i.1 := by
  unfold formP at h
  rw [Bool.and_eq_true, decide_eq_true_eq] at h
  exact h.1
theorem mem_runP {a x : Int} {n : Nat} (h : x ∈ runP a n) : a ≤ x ∧ x < a + n := by
  unfold runP at h
  rw [List.mem_map] at h
  obtain ⟨k, hk, rfl⟩ := h
  rw [List.mem_range] at hk
  omega
theorem sound_ins {rts : List Rt} {k : Nat} {len at' rg : Int} {i : Ins} (hrg : (rts.getD k emptyRt).2.2.2.1 = rg) (hb : rg ≤ 32768) (hf : formP len at' i = true) (hg : rangesP rts k i = true) :
    (bigI i.2.2.2.1 ∧ bigI i.2.2.2.2) ∧ ∀ x ∈ usesP rts i ++ setsP rts i, 0 ≤ x ∧ x < rg := by
  have hk := form_known hf
  obtain ⟨op, A, B, C, D⟩ := i
  obtain ⟨yy, hy⟩ : ∃ yy, calledP rts A = yy := ⟨_, rfl⟩
  obtain ⟨r, hr⟩ : ∃ r, rts.getD k emptyRt = r := ⟨_, rfl⟩
  have hu : usesP rts (op, A, B, C, D) = if op = 2 ∨ op = 4 ∨ op = 5 then [B] else if op = 6 then (if B = C then [B] else [min B C, max B C]) else if op = 8 then [A] else if op = 9 then runP C yy.2.1.length else [] := by unfold usesP; rw [hy]
  have hs : setsP rts (op, A, B, C, D) = if op = 1 ∨ op = 2 ∨ op = 3 ∨ op = 5 ∨ op = 6 then [A] else if op = 9 then runP D yy.2.2.1.length else [] := by unfold setsP; rw [hy]
  rw [hu, hs]
  unfold rangesP at hg
  dsimp only at hg hk ⊢
  rw [hy, hr] at hg
  rw [hr] at hrg
  unfold formP at hf
  rw [Bool.and_eq_true] at hf
  have hf2 := hf.2
  dsimp only at hf2
  clear hf hu hs hr hy
  unfold bigI
  rcases op_cases hk with rfl | rfl | rfl | rfl | rfl | rfl | rfl | rfl | rfl | rfl <;> simp [opRow, knownP, opT, fieldsV, formT, rangeT, withinP, hrg] at hf2 hg
  · refine ⟨by omega, fun x hx => ?_⟩
    simp at hx; omega
  · refine ⟨by omega, fun x hx => ?_⟩
    simp at hx; omega
  · refine ⟨by omega, fun x hx => ?_⟩
    simp at hx; omega
  · refine ⟨by omega, fun x hx => ?_⟩
    simp at hx; omega
  · have := operands_in hf2.1 (by decide)
    refine ⟨by omega, fun x hx => ?_⟩
    simp at hx; omega
  · have := operands_in hf2 (by decide)
    refine ⟨by omega, fun x hx => ?_⟩
    rcases List.mem_append.1 hx with hx | hx
    · by_cases h : B = C
      · simp [h] at hx; omega
      · simp [h] at hx; omega
    · simp at hx; omega
  · refine ⟨by omega, fun x hx => ?_⟩
    simp at hx
  · refine ⟨by omega, fun x hx => ?_⟩
    simp at hx; omega
  · refine ⟨by omega, fun x hx => ?_⟩
    rcases List.mem_append.1 hx with hx | hx
    · have := mem_runP (a := C) (n := yy.2.1.length) (by simpa using hx); omega
    · have := mem_runP (a := D) (n := yy.2.2.1.length) (by simpa using hx); omega
  · refine ⟨by omega, fun x hx => ?_⟩
    simp at hx

theorem longL_straight (before : List Int) : ∀ (l : List Ins) (j : Nat), l.length ≤ 32768 → (∀ i ∈ l, i.1 ≠ 7 ∧ i.1 ≠ 9) → ∀ n, (longL before j l).getD n 0 = ((l.length - n : Nat) : Int)
  | [], j, _, _, n => by cases n <;> simp [longL]
  | i :: l, j, hl, h, n => by
    rw [List.length_cons] at hl
    have ih := longL_straight before l (j + 1) (by omega) (fun x hx => h x (List.mem_cons_of_mem _ hx))
    rw [longL_cons, List.length_cons]
    cases n with
    | succ n => rw [List.getD_cons_succ, ih n]; omega
    | zero =>
      rw [List.getD_cons_zero]
      have hhd : (longL before (j + 1) l).headD 0 = (l.length : Int) := by
        have h0 := ih 0
        have hd0 : (longL before (j + 1) l).getD 0 0 = (longL before (j + 1) l).headD 0 := by cases longL before (j + 1) l <;> rfl
        rw [← hd0, h0]; omega
      have hi := h i List.mem_cons_self
      have hm := ih (i.2.2.1 - j - 1).toNat
      unfold nextL
      rw [if_neg hi.1, if_neg hi.2, hhd, hm]
      simp only [farN]
      split <;> omega
def jcB (i : Ins) : Bool := decide (i.1 = 7) || decide (i.1 = 9)
theorem worst_last {rts : List Rt} {n : Nat} (hn : rts.length = n + 1) (hl : rts[n].2.2.2.2.2.length ≤ 32768) (h : ∀ i ∈ rts[n].2.2.2.2.2, i.1 ≠ 7 ∧ i.1 ≠ 9) : (worstL rts).getLastD 0 = rts[n].2.2.2.2.2.length := by
  have hst := worstL_step rts (k := n) (by omega)
  rw [List.take_of_length_le (by omega)] at hst
  have h0 := longL_straight (worstL (rts.take n)) rts[n].2.2.2.2.2 0 hl h 0
  have hd0 : ∀ L : List Int, L.getD 0 0 = L.headD 0 := fun L => by cases L <;> rfl
  rw [hd0] at h0
  rw [hst, h0, List.getLastD_eq_getLast?, List.getLast?_concat]; simp
theorem worstL_last_nonneg (rts : List Rt) : 0 ≤ (worstL rts).getLastD 0 := by
  have hwi := worstL_in rts rts.length (Nat.le_refl _)
  rw [List.take_length] at hwi
  rw [List.getLastD_eq_getLast?]
  cases e : (worstL rts).getLast? with
  | none => exact Int.le_refl 0
  | some v => exact (hwi v (List.mem_of_getLast? e)).1
theorem sound_end {im : Im} (h : checkP im = 0) {n : Nat} (hn : im.2.length = n + 1) :
    ((worstP im).2 = 3 ∧ (worstP im).1 = 0) ∨ ((worstP im).2 = 0 ∧ 0 ≤ (worstP im).1 ∧ (im.2[n].2.2.2.2.2.any jcB = false → (worstP im).1 = im.2[n].2.2.2.2.2.length)) := by
  obtain ⟨g1, g2, g3, g4⟩ := checkP_zero h
  have hg := g4 n (by omega)
  have h0 := worstL_last_nonneg im.2
  unfold worstP
  rw [if_pos h]
  dsimp only
  split
  · exact .inl ⟨rfl, rfl⟩
  · refine .inr ⟨rfl, h0, fun hj => ?_⟩
    refine worst_last hn hg.cl fun i hi => ?_
    rw [List.any_eq_false] at hj
    have := hj i hi
    simp [jcB] at this
    exact this
end Go.Z.Asm
/- Chapter 26: the statement on accepted images. Conditions: what the library's variables hold (LibA). -/
namespace Go.Z.Asm
set_option maxRecDepth 8000
set_option linter.unusedVariables false
set_option linter.unusedSimpArgs false
set_option linter.unusedSectionVars false
open Go Go.Z Go.Lib
theorem ones1 (l : List Int) : one1 (l.map encI) = true := by unfold one1; rw [List.all_eq_true]; intro v hv; obtain ⟨y, _, rfl⟩ := List.mem_map.1 hv; rfl
theorem called_small {im : Im} (h : ∀ k (hk : k < im.2.length), RtGood im k im.2[k]) (z : Int) : (calledP im.2 z).2.1.length ≤ 64 ∧ (calledP im.2 z).2.2.1.length ≤ 64 := by
  unfold calledP
  split
  · exact ⟨Nat.zero_le _, Nat.zero_le _⟩
  · rw [List.getD_eq_getElem?_getD]
    cases e : im.2[z.toNat]? with
    | none => exact ⟨Nat.zero_le _, Nat.zero_le _⟩
    | some x =>
      obtain ⟨hk, rfl⟩ := List.getElem?_eq_some_iff.1 e
      exact ⟨(h _ hk).il, (h _ hk).ol⟩
theorem uses_small {im : Im} (h : ∀ k (hk : k < im.2.length), RtGood im k im.2[k]) (i : Ins) : (usesP im.2 i).length ≤ 64 ∧ (setsP im.2 i).length ≤ 64 := by
  obtain ⟨h1, h2⟩ := called_small h i.2.1
  constructor
  · unfold usesP
    split
    · simp
    · split
      · split <;> simp
      · split
        · simp
        · split
          · rw [runP_len]; exact h1
          · simp
  · unfold setsP
    split
    · simp
    · split
      · rw [runP_len]; exact h2
      · simp
end Go.Z.Asm
namespace Go.Proofs.YtcnfcoojmbjdlaaGreatDoor
set_option maxRecDepth 8000
set_option linter.unusedVariables false
set_option linter.unusedSimpArgs false
set_option linter.unusedSectionVars false
open Go Go.Z Go.Z.Asm Go.RowKit

theorem asound_ok {ρ : Nat → Obj → Prop} (hk : LibA ρ) {ea ra : Option Addr} {ec rc : Nat} {im : Im} (h : ImI ρ ea ra im) :
    Con Tryz.prog ρ 9 #[.agg #[.slice ea im.1.length ec, .slice ra im.2.length rc]] [] (fun v _ => v = .bool true) := by
  have hrl := h.rl
  refine con_intro Tryz.func9 Tryz.call9 rfl Tryz.ntmps9 rfl (L := [(0, _)]) rfl fun w hh => ?_
  refine g_seq ?_
  refine g_region ?_
  refine g_eff (e_box rfl (by rfl)) rfl (fun _ _ => ?_)
  rintro ⟨b1, rfl, rfl⟩
  refine g_pure (p_assign rfl) rfl ?_
  refine g_nil ?_
  refine g_qt ?_
  refine g_seq ?_
  refine g_join (fun _ : Unit => [(1, .pointer (some ⟨b1, 0, none⟩))]) (fun _ => [Blk b1 (.cells [.slice ea im.1.length ec, .slice ra im.2.length rc].toArray 25 (0, 0))]) (fun _ => checkP im = 0) ?_ ?_
  · refine g_seq ?_
    refine g_region ?_
    first | refine g_pure (p_loadO (by rfl) rfl (by first | (apply Has.own; (repeat' (first | exact Take.here | apply Take.there)); done) | exact Has.ro (by assumption)) (by rfl)) rfl ?_ | refine g_pure (p_loadN (by rfl) rfl (by first | (apply Has.own; (repeat' (first | exact Take.here | apply Take.there)); done) | exact Has.ro (by assumption)) (by first | rfl | assumption)) rfl ?_
    refine g_call (Hin := []) (Hr := ?hr1) (R := ?rr1) rfl rfl rfl ?hin1 ?hc1 ?hk1
    case hin1 => repeat' (first | exact Cover.nil | exact Take.here | apply Cover.cons | apply Take.there)
    case hc1 => intro ρ' hρ hR; exact heavy_ok (ec := ec) (rc := rc) (h.mono hρ)
    rintro _ _ ⟨hb14, rfl, rfl⟩
    refine g_pure (p_move rfl) rfl ?_
    refine g_split rfl rfl (fun h1 => ?_) (fun h1 => ?_)
    · refine g_no rfl rfl rfl rfl ?_
      refine g_no rfl rfl rfl rfl ?_
      refine g_no rfl rfl rfl rfl ?_
      first | refine g_pure (p_pickt rfl rfl) rfl ?_ | refine g_pure (p_pickf rfl rfl) rfl ?_
      refine g_nil ?_
      refine g_qt ?_
      refine g_ift rfl ?_
      refine g_seq ?_
      refine g_region ?_
      refine g_call (Hin := []) (Hr := ?hr2) (R := ?rr2) rfl rfl rfl ?hin2 ?hc2 ?hk2
      case hin2 => repeat' (first | exact Cover.nil | exact Take.here | apply Cover.cons | apply Take.there)
      case hc2 => intro ρ' hρ hR; exact lives_ok (hk.mono hρ)
      rintro _ _ ⟨rfl, rfl⟩
      refine g_pure (p_assign rfl) rfl ?_
      refine g_nil ?_
      refine g_qt ?_
      refine g_ret ?_
      refine g_qn_ret ?_
      refine g_qt_ret ?_
      exact g_post (rs := [.tmp 2]) rfl (.tmp rfl .nil) rfl (by repeat' (first | exact Cover.nil | exact Take.here | apply Cover.cons | apply Take.there))
    · refine g_yes rfl rfl ?_
      first | refine g_pure (p_loadO (by rfl) rfl (by first | (apply Has.own; (repeat' (first | exact Take.here | apply Take.there)); done) | exact Has.ro (by assumption)) (by rfl)) rfl ?_ | refine g_pure (p_loadN (by rfl) rfl (by first | (apply Has.own; (repeat' (first | exact Take.here | apply Take.there)); done) | exact Has.ro (by assumption)) (by first | rfl | assumption)) rfl ?_
      refine g_yes rfl rfl ?_
      refine g_call (Hin := []) (Hr := ?hr3) (R := ?rr3) rfl rfl rfl ?hin3 ?hc3 ?hk3
      case hin3 => repeat' (first | exact Cover.nil | exact Take.here | apply Cover.cons | apply Take.there)
      case hc3 => intro ρ' hρ hR; exact checkA_ok (ec := ec) (rc := rc) (hk.mono hρ).ops (h.mono hρ)
      rintro _ _ ⟨rfl, rfl⟩
      refine g_yes rfl rfl ?_
      refine g_pure (p_neq rfl rfl) rfl ?_
      first | refine g_pure (p_pickt rfl rfl) rfl ?_ | refine g_pure (p_pickf rfl rfl) rfl ?_
      refine g_nil ?_
      refine g_qt ?_
      refine g_ifndL rfl (fun h3 => ?_) (fun h3 => ?_)
      · refine g_seq ?_
        refine g_region ?_
        refine g_call (Hin := []) (Hr := ?hr4) (R := ?rr4) rfl rfl rfl ?hin4 ?hc4 ?hk4
        case hin4 => repeat' (first | exact Cover.nil | exact Take.here | apply Cover.cons | apply Take.there)
        case hc4 => intro ρ' hρ hR; exact lives_ok (hk.mono hρ)
        rintro _ _ ⟨rfl, rfl⟩
        refine g_pure (p_assign rfl) rfl ?_
        refine g_nil ?_
        refine g_qt ?_
        refine g_ret ?_
        refine g_qn_ret ?_
        refine g_qt_ret ?_
        exact g_post (rs := [.tmp 2]) rfl (.tmp rfl .nil) rfl (by repeat' (first | exact Cover.nil | exact Take.here | apply Cover.cons | apply Take.there))
      · refine g_skip ?_
        refine g_qn ?_
        exact g_joined () (by (repeat (first | exact trivial | refine ⟨by rfl, ?_⟩)); done) (by repeat' (first | exact Cover.nil | exact Take.here | apply Cover.cons | apply Take.there)) (by omega)
  rintro _ hE
  refine g_qt ?_
  obtain ⟨g1, g2, g3, g4⟩ := checkP_zero hE
  refine g_seq ?_
  refine g_seq ?_
  refine g_region ?_
  refine g_pure (p_fieldAddr rfl) rfl ?_
  refine g_pure (p_load (by rfl) rfl (by first | (apply Has.own; (repeat' (first | exact Take.here | apply Take.there)); done) | exact Has.ro (by assumption)) (by first | rfl | assumption)) rfl ?_
  refine g_pure (p_len (by rfl) rfl) rfl ?_
  refine g_pure (p_eql rfl rfl) rfl ?_
  refine g_nil ?_
  refine g_qt ?_
  refine g_ifd rfl (fun q0 => ?_) (fun q0 => ?_)
  · exfalso; omega
  · refine g_skip ?_
    refine g_qt ?_
    refine g_seq ?_
    refine g_region ?_
    refine g_pure (p_assign rfl) rfl ?_
    refine g_nil ?_
    refine g_qt ?_
    refine g_seq ?_
    refine g_seq ?_
    refine g_region ?_
    refine g_pure (p_assign rfl) rfl ?_
    refine g_nil ?_
    refine g_qt ?_
    refine g_block ?_
    refine g_loop (fun q : Nat × Int => [(1, .pointer (some ⟨b1, 0, none⟩)), (3, .int .i64 q.2), (4, .int .i64 q.1)])
      (fun _ => [Blk b1 (.cells [.slice ea im.1.length ec, .slice ra im.2.length rc].toArray 25 (0, 0))]) (fun q => q.1 ≤ im.2.length ∧ ∀ n (hn : n < im.2.length), q.1 = n + 1 → q.2 = (im.2[n].2.2.2.2.2.length : Int)) (fun q => im.2.length - q.1) (0, 0) ⟨Nat.zero_le _, fun n _ h => by cases h⟩ (by (repeat (first | exact trivial | refine ⟨by rfl, ?_⟩)); done) (by repeat' (first | exact Cover.nil | exact Take.here | apply Cover.cons | apply Take.there)) ?_
    rintro ⟨k, st⟩ ⟨hk1, hk2⟩
    dsimp only at hk1 hk2 ⊢
    refine g_seq ?_
    refine g_seq ?_
    refine g_region ?_
    refine g_pure (p_move rfl) rfl ?_
    refine g_pure (p_fieldAddr rfl) rfl ?_
    refine g_pure (p_load (by rfl) rfl (by first | (apply Has.own; (repeat' (first | exact Take.here | apply Take.there)); done) | exact Has.ro (by assumption)) (by first | rfl | assumption)) rfl ?_
    refine g_pure (p_len (by rfl) rfl) rfl ?_
    refine g_pure (p_lss rfl rfl) rfl ?_
    refine g_nil ?_
    refine g_qt ?_
    refine g_ifd rfl (fun q => ?_) (fun q => ?_)
    · have hkl : k < im.2.length := by omega
      obtain ⟨b, off, cs, T, fz, r1, r2, r3⟩ := h.rs (by omega)
      obtain ⟨row, p1, p2, p3⟩ := r3 k hkl
      have hgd := g4 k hkl
      have hget : im.2.getD k emptyRt = im.2[k] := by rw [List.getD_eq_getElem?_getD, List.getElem?_eq_getElem hkl]; rfl
      have hnext : ∀ n (hn : n < im.2.length), k + 1 = n + 1 → (im.2[k].2.2.2.2.2.length : Int) = (im.2[n].2.2.2.2.2.length : Int) := fun n hn e => by
        obtain rfl : k = n := by omega
        rfl
      generalize hx0 : im.2[k] = x0 at p1 hgd hget hnext
      have hco := codeE_zero im.2 k _ _ 0 hgd.co
      have hcl := hgd.cl
      have hrg := hgd.rl
      have hrg2 := hgd.io
      obtain ⟨ia, ic, oa, oc, na, nc, ca, cc, e0, hi, ho, hn, hc⟩ := p1
      subst e0
      obtain ⟨bc, oc2, cs2, T2, fz2, hcr⟩ := RSl.row encIns_len hc
      refine g_skip ?_
      refine g_qt ?_
      refine g_seq ?_
      refine g_block ?_
      refine g_seq ?_
      refine g_region ?_
      refine g_pure (p_fieldAddr rfl) rfl ?_
      refine g_pure (p_load (by rfl) rfl (by first | (apply Has.own; (repeat' (first | exact Take.here | apply Take.there)); done) | exact Has.ro (by assumption)) (by first | rfl | assumption)) rfl ?_
      refine g_pure (p_move rfl) rfl ?_
      refine g_pure (p_indexAddr rfl rfl (by omega) (fun _ => r1)) rfl ?_
      refine g_pure (p_loadN (by rfl) rfl (Has.ro r2) (by rw [Int.toNat_natCast]; exact p2)) rfl ?_
      refine g_eff (e_alloc (by rfl)) rfl (fun _ _ => ?_)
      rintro ⟨b5, rfl, rfl⟩
      first | refine g_eff0 (e_storeO rfl rfl (by rfl) (by rfl) (by rfl) (by repeat' (first | exact Take.here | apply Take.there)) (by rfl)) (fun _ _ => ?_) | refine g_eff0 (e_storeN rfl rfl (by rfl) (by rfl) (by rfl) (by repeat' (first | exact Take.here | apply Take.there)) (by simp)) (fun _ _ => ?_)
      rintro rfl
      refine g_nil ?_
      refine g_qt ?_
      refine g_seq ?_
      refine g_region ?_
      refine g_pure (p_fieldAddr rfl) rfl ?_
      refine g_pure (p_load (by rfl) rfl (by first | (apply Has.own; (repeat' (first | exact Take.here | apply Take.there)); done) | exact Has.ro (by assumption)) (by first | rfl | assumption)) rfl ?_
      refine g_pure (p_len (by rfl) rfl) rfl ?_
      refine g_pure (p_assign rfl) rfl ?_
      refine g_nil ?_
      refine g_qt ?_
      refine g_seq ?_
      refine g_region ?_
      refine g_pure (p_assign rfl) rfl ?_
      refine g_nil ?_
      refine g_qt ?_
      refine g_block ?_
      refine g_loop (fun j : Nat => [(1, .pointer (some ⟨b1, 0, none⟩)), (3, .int .i64 x0.2.2.2.2.2.length), (4, .int .i64 k), (5, .pointer (some ⟨b5, 0, none⟩)), (6, .int .i64 j)])
        (fun _ => [Blk b5 (.cells [.string (strB x0.1), .slice ia x0.2.1.length ic, .slice oa x0.2.2.1.length oc, .int .i64 x0.2.2.2.1, .slice na x0.2.2.2.2.1.length nc, .slice ca x0.2.2.2.2.2.length cc].toArray 45 (0, 0)), Blk b1 (.cells [.slice ea im.1.length ec, .slice ra im.2.length rc].toArray 25 (0, 0))])
        (fun j => j ≤ x0.2.2.2.2.2.length) (fun j => x0.2.2.2.2.2.length - j) 0 (Nat.zero_le _) (by (repeat (first | exact trivial | refine ⟨by rfl, ?_⟩)); done) (by repeat' (first | exact Cover.nil | exact Take.here | apply Cover.cons | apply Take.there)) ?_
      rintro j hj1
      refine g_seq ?_
      refine g_seq ?_
      refine g_region ?_
      refine g_pure (p_move rfl) rfl ?_
      refine g_pure (p_fieldAddr rfl) rfl ?_
      refine g_pure (p_load (by rfl) rfl (by first | (apply Has.own; (repeat' (first | exact Take.here | apply Take.there)); done) | exact Has.ro (by assumption)) (by first | rfl | assumption)) rfl ?_
      refine g_pure (p_len (by rfl) rfl) rfl ?_
      refine g_pure (p_lss rfl rfl) rfl ?_
      refine g_nil ?_
      refine g_qt ?_
      refine g_ifd rfl (fun s => ?_) (fun s => ?_)
      · have hjl : j < x0.2.2.2.2.2.length := by omega
        obtain ⟨c1, c2, c3⟩ := hcr (by omega)
        have c4 := (c3 j hjl).1 (by decide)
        obtain ⟨f1, f2⟩ := hco j hjl
        generalize x0.2.2.2.2.2[j] = ii at c4 f1 f2
        obtain ⟨⟨bi1, bi2⟩, hall⟩ := sound_ins (rg := x0.2.2.2.1) (by rw [hget]) hrg f1 f2
        obtain ⟨hu1, hu2⟩ := uses_small g4 ii
        refine g_skip ?_
        refine g_qt ?_
        refine g_seq ?_
        refine g_block ?_
        refine g_seq ?_
        refine m_begin (.fl 0 1 (.fl 1 0 (.fl 2 1 (.fl 3 0 (.fl 4 0 (.fl 5 1 (.fl 7 1 (.fl 8 0 (.fl 9 1 (.fl 10 0 (.fl 11 0 (.fl 12 1 (.ef 6 (.ef 13 (.ef 14 (.fl 15 0 .done)))))))))))))))) [Blk b5 (.cells [.string (strB x0.1), .slice ia x0.2.1.length ic, .slice oa x0.2.2.1.length oc, .int .i64 x0.2.2.2.1, .slice na x0.2.2.2.2.1.length nc, .slice ca x0.2.2.2.2.2.length cc].toArray 45 (0, 0)), Blk b1 (.cells [.slice ea im.1.length ec, .slice ra im.2.length rc].toArray 25 (0, 0))] (by kernel_rfl) (by kernel_rfl) (by repeat' (first | exact Cover.nil | exact Take.here | apply Cover.cons | apply Take.there)) ?_
        first | refine m_float rfl (p_loadO (by rfl) rfl (by first | (apply Has.own; (repeat' (first | exact Take.here | apply Take.there)); done) | exact Has.ro (by assumption)) (by rfl)) rfl ?_ | refine m_float rfl (p_loadN (by rfl) rfl (by first | (apply Has.own; (repeat' (first | exact Take.here | apply Take.there)); done) | exact Has.ro (by assumption)) (by first | rfl | assumption)) rfl ?_
        refine m_float0 rfl (fun _ _ => p_fieldAddr rfl) rfl ?_
        refine m_float rfl (p_load (by rfl) rfl (by first | (apply Has.own; (repeat' (first | exact Take.here | apply Take.there)); done) | exact Has.ro (by assumption)) (by first | rfl | assumption)) rfl ?_
        refine m_float0 rfl (fun _ _ => p_move rfl) rfl ?_
        refine m_float0 rfl (fun _ _ => p_indexAddr rfl rfl (by omega) (fun _ => c1)) rfl ?_
        refine m_float rfl (p_loadN (by rfl) rfl (Has.ro c2) (by rw [Int.toNat_natCast]; exact c4)) rfl ?_
        first | refine m_float rfl (p_loadO (by rfl) rfl (by first | (apply Has.own; (repeat' (first | exact Take.here | apply Take.there)); done) | exact Has.ro (by assumption)) (by rfl)) rfl ?_ | refine m_float rfl (p_loadN (by rfl) rfl (by first | (apply Has.own; (repeat' (first | exact Take.here | apply Take.there)); done) | exact Has.ro (by assumption)) (by first | rfl | assumption)) rfl ?_
        refine m_float0 rfl (fun _ _ => p_fieldAddr rfl) rfl ?_
        refine m_float rfl (p_load (by rfl) rfl (by first | (apply Has.own; (repeat' (first | exact Take.here | apply Take.there)); done) | exact Has.ro (by assumption)) (by first | rfl | assumption)) rfl ?_
        refine m_float0 rfl (fun _ _ => p_move rfl) rfl ?_
        refine m_float0 rfl (fun _ _ => p_indexAddr rfl rfl (by omega) (fun _ => c1)) rfl ?_
        refine m_float rfl (p_loadN (by rfl) rfl (Has.ro c2) (by rw [Int.toNat_natCast]; exact c4)) rfl ?_
        refine m_call (Hin := []) (Hr := ?hr5) (R := ?rr5) rfl wantedN rfl rfl rfl ?hin5 ?hc5 ?hk5
        case hin5 => repeat' (first | exact Cover.nil | exact Take.here | apply Cover.cons | apply Take.there)
        case hc5 => intro ρ' hρ hR; exact usesA_ok (ec := ec) (rc := rc) (h.mono hρ) ii bi1
        rintro _ _ ⟨ua, uc, rfl, rfl⟩
        refine ⟨.some (by repeat' (first | exact Cover.nil | exact Take.here | apply Cover.cons | apply Take.there)), ?_⟩
        refine m_call (Hin := []) (Hr := ?hr6) (R := ?rr6) rfl wantedN rfl rfl rfl ?hin6 ?hc6 ?hk6
        case hin6 => repeat' (first | exact Cover.nil | exact Take.here | apply Cover.cons | apply Take.there)
        case hc6 => intro ρ' hρ hR; exact setsA_ok (ec := ec) (rc := rc) (h.mono hρ) ii bi2
        rintro _ _ ⟨sa, sc, rfl, rfl⟩
        refine ⟨.none (by kernel_rfl), ?_⟩
        refine m_eff rfl (e_appendS (news := (setsP im.2 ii).map encI) (by rfl) (by rfl) rfl rfl (slAt_own (xs := (setsP im.2 ii).map encI) (a := sa) (k := (setsP im.2 ii).length) (cap := sc) (by repeat' (first | exact Take.here | apply Take.there))) (ones1 _) (xs := (usesP im.2 ii).map encI) (by repeat' (first | exact Take.here | apply Take.there)) (by show ((usesP im.2 ii).length + (setsP im.2 ii).length) * 8 ≤ _; omega) (by omega)) rfl (fun _ _ => ?_)
        rintro ⟨a61, c61, rfl, rfl⟩
        refine ⟨.none (by kernel_rfl), ?_⟩
        refine m_float0 rfl (fun _ _ => p_assign rfl) rfl ?_
        refine m_nil ?_
        refine g_qt ?_
        refine g_seq ?_
        refine g_region ?_
        refine g_pure (p_assign rfl) rfl ?_
        refine g_nil ?_
        refine g_qt ?_
        refine g_block ?_
        rw [← List.map_append]
        have hsum : (usesP im.2 ii).length + (setsP im.2 ii).length = (usesP im.2 ii ++ setsP im.2 ii).length := by rw [List.length_append]
        rw [hsum]
        have hll : (usesP im.2 ii ++ setsP im.2 ii).length ≤ 128 := by omega
        generalize usesP im.2 ii ++ setsP im.2 ii = xs at hall hll ⊢
        refine g_loop (fun i : Nat => [(1, .pointer (some ⟨b1, 0, none⟩)), (3, .int .i64 x0.2.2.2.2.2.length), (4, .int .i64 k), (5, .pointer (some ⟨b5, 0, none⟩)), (6, .int .i64 j), (7, .slice a61 xs.length c61), (8, .int .i64 i)])
          (fun _ => [OwnSl 3 1 a61 xs.length c61 (xs.map encI), Blk b5 (.cells [.string (strB x0.1), .slice ia x0.2.1.length ic, .slice oa x0.2.2.1.length oc, .int .i64 x0.2.2.2.1, .slice na x0.2.2.2.2.1.length nc, .slice ca x0.2.2.2.2.2.length cc].toArray 45 (0, 0)), Blk b1 (.cells [.slice ea im.1.length ec, .slice ra im.2.length rc].toArray 25 (0, 0))])
          (fun i => i ≤ xs.length) (fun i => xs.length - i) 0 (Nat.zero_le _) (by (repeat (first | exact trivial | refine ⟨by rfl, ?_⟩)); done) (by repeat' (first | exact Cover.nil | exact Take.here | apply Cover.cons | apply Take.there)) ?_
        rintro i hi1
        refine g_seq ?_
        refine g_seq ?_
        refine g_region ?_
        refine g_pure (p_move rfl) rfl ?_
        refine g_pure (p_move rfl) rfl ?_
        refine g_pure (p_len (by rfl) rfl) rfl ?_
        refine g_pure (p_lss rfl rfl) rfl ?_
        refine g_nil ?_
        refine g_qt ?_
        refine g_ifd rfl (fun t => ?_) (fun t => ?_)
        · have hil : i < xs.length := by omega
          have hx := mapI2 xs hil
          obtain ⟨v1, v2⟩ := hall xs[i] (List.getElem_mem hil)
          generalize xs[i] = z at hx v1 v2
          refine g_own (e := 3) (size := 1) (a1 := a61) (k := xs.length) (cap := c61) (xs := xs.map encI) (by repeat' (first | exact Take.here | apply Take.there)) (fun _ h _ _ => absurd h (by omega)) ?_
          rintro g cur rfl hc1 hc2 hcl2 htk hxl
          have hcur : cur[0 + (i : Int).toNat * 1]? = some (.int .i64 z) := own_at (k := i) htk (by show 0 + (i : Int).toNat * 1 = _; omega) hx
          refine g_skip ?_
          refine g_qt ?_
          refine g_seq ?_
          refine g_block ?_
          refine g_seq ?_
          refine m_begin0 (.fl 0 0 (.fl 1 0 (.fl 2 0 (.fl 3 1 (.fl 4 0 (.fl 5 0 (.fl 6 0 (.fl 7 0 (.fl 8 0 (.fl 9 1 (.fl 10 0 (.fl 11 1 (.fl 12 0 (.fl 13 0 .done)))))))))))))) (by kernel_rfl) (by kernel_rfl) ?_
          refine m_float0 rfl (fun _ _ => p_move rfl) rfl ?_
          refine m_float0 rfl (fun _ _ => p_move rfl) rfl ?_
          refine m_float0 rfl (fun _ _ => p_indexAddr rfl rfl (by omega) (fun _ => rfl)) rfl ?_
          refine m_float rfl (p_load (v := .int .i64 z) (by rfl) rfl (Has.own (by repeat' (first | exact Take.here | apply Take.there))) hcur) rfl ?_
          refine m_float0 rfl (fun _ _ => p_lss rfl rfl) rfl ?_
          refine m_float0 rfl (fun _ _ => p_move rfl) rfl ?_
          refine m_splitd 5 rfl rfl (fun h1 => ?_) (fun h1 => ?_)
          · refine m_no0 rfl rfl rfl rfl rfl ?_
            refine m_no0 rfl rfl rfl rfl rfl ?_
            refine m_no0 rfl rfl rfl rfl rfl ?_
            refine m_no rfl rfl rfl rfl rfl ?_
            refine m_no0 rfl rfl rfl rfl rfl ?_
            refine m_no rfl rfl rfl rfl rfl ?_
            refine m_no0 rfl rfl rfl rfl rfl ?_
            first | refine m_float0 rfl (fun _ _ => p_pickt rfl rfl) rfl ?_ | refine m_float0 rfl (fun _ _ => p_pickf rfl rfl) rfl ?_
            refine m_nil ?_
            refine g_qt ?_
            refine g_ift rfl ?_
            refine g_seq ?_
            refine g_region ?_
            refine g_pure (p_assign rfl) rfl ?_
            refine g_nil ?_
            refine g_qt ?_
            refine g_ret ?_
            refine g_qb_ret ?_
            refine g_qt_ret ?_
            refine g_qn_ret ?_
            refine g_qb_ret ?_
            refine g_qb_ret ?_
            refine g_qt_ret ?_
            refine g_qn_ret ?_
            refine g_qb_ret ?_
            refine g_qb_ret ?_
            refine g_qt_ret ?_
            refine g_qn_ret ?_
            refine g_qb_ret ?_
            refine g_qt_ret ?_
            exfalso; omega
          · refine m_yes0 rfl rfl rfl (fun _ _ => p_move rfl) rfl ?_
            refine m_yes0 rfl rfl rfl (fun _ _ => p_move rfl) rfl ?_
            refine m_yes0 rfl rfl rfl (fun _ _ => p_indexAddr rfl rfl (by omega) (fun _ => rfl)) rfl ?_
            refine m_yes rfl rfl rfl (p_load (v := .int .i64 z) (by rfl) rfl (Has.own (by repeat' (first | exact Take.here | apply Take.there))) hcur) rfl ?_
            refine m_yes0 rfl rfl rfl (fun _ _ => p_fieldAddr rfl) rfl ?_
            refine m_yes rfl rfl rfl (p_load (by rfl) rfl (by first | (apply Has.own; (repeat' (first | exact Take.here | apply Take.there)); done) | exact Has.ro (by assumption)) (by first | rfl | assumption)) rfl ?_
            refine m_yes0 rfl rfl rfl (fun _ _ => p_geq rfl rfl) rfl ?_
            first | refine m_float0 rfl (fun _ _ => p_pickt rfl rfl) rfl ?_ | refine m_float0 rfl (fun _ _ => p_pickf rfl rfl) rfl ?_
            refine m_nil ?_
            refine g_qt ?_
            refine g_ifdL rfl (fun h3 => ?_) (fun h3 => ?_)
            · refine g_seq ?_
              refine g_region ?_
              refine g_pure (p_assign rfl) rfl ?_
              refine g_nil ?_
              refine g_qt ?_
              refine g_ret ?_
              refine g_qb_ret ?_
              refine g_qt_ret ?_
              refine g_qn_ret ?_
              refine g_qb_ret ?_
              refine g_qb_ret ?_
              refine g_qt_ret ?_
              refine g_qn_ret ?_
              refine g_qb_ret ?_
              refine g_qb_ret ?_
              refine g_qt_ret ?_
              refine g_qn_ret ?_
              refine g_qb_ret ?_
              refine g_qt_ret ?_
              exfalso; omega
            · refine g_skip ?_
              refine g_qb ?_
              refine g_qt ?_
              refine g_region ?_
              refine g_pure (p_move rfl) rfl ?_
              first | refine g_pure (p_addi rfl rfl (by omega)) rfl ?_ | refine g_pure (p_add rfl rfl) rfl ?_
              refine g_pure (p_assign rfl) rfl ?_
              refine g_nil ?_
              refine g_qn ?_
              (refine g_fold (e := 3) (size := 1) (g := g) (k := xs.length) (cap := c61) (cur := cur) (xs := xs.map encI) (by repeat' (first | exact Take.here | apply Take.there)) hc1 hc2 hcl2 htk ?_; exact g_next (i + 1) (by (repeat (first | exact trivial | refine ⟨by rfl, ?_⟩)); done) (by repeat' (first | exact Cover.nil | exact Take.here | apply Cover.cons | apply Take.there)) hil (by omega))
        · refine g_exit ?_
          refine g_qt_exit ?_
          refine g_qn_exit ?_
          refine g_qb_exit ?_
          refine g_qb ?_
          refine g_qt ?_
          refine g_region ?_
          refine g_pure (p_move rfl) rfl ?_
          first | refine g_pure (p_addi rfl rfl (by omega)) rfl ?_ | refine g_pure (p_add rfl rfl) rfl ?_
          refine g_pure (p_assign rfl) rfl ?_
          refine g_nil ?_
          refine g_qn ?_
          exact g_next (j + 1) (by (repeat (first | exact trivial | refine ⟨by rfl, ?_⟩)); done) (by repeat' (first | exact Cover.nil | exact Take.here | apply Cover.cons | apply Take.there)) hjl (by omega)
      · refine g_exit ?_
        refine g_qt_exit ?_
        refine g_qn_exit ?_
        refine g_qb_exit ?_
        refine g_qb ?_
        refine g_qt ?_
        refine g_region ?_
        refine g_pure (p_move rfl) rfl ?_
        first | refine g_pure (p_addi rfl rfl (by omega)) rfl ?_ | refine g_pure (p_add rfl rfl) rfl ?_
        refine g_pure (p_assign rfl) rfl ?_
        refine g_nil ?_
        refine g_qn ?_
        exact g_next (k + 1, _) (by (repeat (first | exact trivial | refine ⟨by rfl, ?_⟩)); done) (by repeat' (first | exact Cover.nil | exact Take.here | apply Cover.cons | apply Take.there)) ⟨hkl, hnext⟩ (by dsimp only; omega)
    · obtain ⟨n, hn⟩ : ∃ n, im.2.length = n + 1 := ⟨im.2.length - 1, by omega⟩
      have hst := hk2 n (by omega) (by omega)
      have hend := sound_end hE hn
      have hnl : n < im.2.length := by omega
      obtain ⟨b, off, cs, T, fz, r1, r2, r3⟩ := h.rs (by omega)
      obtain ⟨row, p1, p2, p3⟩ := r3 n hnl
      have hgd := g4 n hnl
      generalize im.2[n] = x0 at p1 hgd hst hend
      have hcl := hgd.cl
      obtain ⟨ia, ic, oa, oc, na, nc, ca, cc, e0, hi, ho, hn', hc⟩ := p1
      subst e0
      subst hst
      obtain ⟨bc, oc2, cs2, T2, fz2, hcr⟩ := RSl.row encIns_len hc
      generalize hw1 : (worstP im).1 = wn at hend
      generalize hw2 : (worstP im).2 = we at hend
      have cW : ∀ {ρ' : Nat → Obj → Prop}, (∀ b o, ρ b o → ρ' b o) → Con Tryz.prog ρ' 21 #[.agg #[.slice ea im.1.length ec, .slice ra im.2.length rc]] [] (fun v H => v = .tuple #[.int .i64 wn, .int .i64 we] ∧ H = []) := fun hρ => by
        have := worstA_ok (ec := ec) (rc := rc) (hk.mono hρ).ops (h.mono hρ)
        rw [hw1, hw2] at this
        exact this
      refine g_exit ?_
      refine g_qt_exit ?_
      refine g_qn_exit ?_
      refine g_qb_exit ?_
      refine g_qt ?_
      refine g_seq ?_
      refine g_region ?_
      refine g_pure (p_fieldAddr rfl) rfl ?_
      refine g_pure (p_load (by rfl) rfl (by first | (apply Has.own; (repeat' (first | exact Take.here | apply Take.there)); done) | exact Has.ro (by assumption)) (by first | rfl | assumption)) rfl ?_
      refine g_pure (p_fieldAddr rfl) rfl ?_
      refine g_pure (p_load (by rfl) rfl (by first | (apply Has.own; (repeat' (first | exact Take.here | apply Take.there)); done) | exact Has.ro (by assumption)) (by first | rfl | assumption)) rfl ?_
      refine g_pure (p_len (by rfl) rfl) rfl ?_
      first | refine g_pure (p_subi rfl rfl (by omega)) rfl ?_ | refine g_pure (p_sub rfl rfl) rfl ?_
      refine g_pure (p_indexAddr rfl rfl (by omega) (fun _ => r1)) rfl ?_
      refine g_pure (p_fieldAddr rfl) rfl ?_
      refine g_pure (p_load (by rfl) rfl (Has.ro r2) (by rw [show ((im.2.length : Int) - 1).toNat = n by omega]; exact p3 5 _ rfl)) rfl ?_
      refine g_pure (p_assign rfl) rfl ?_
      refine g_nil ?_
      refine g_qt ?_
      refine g_seq ?_
      refine g_seq ?_
      refine g_region ?_
      refine g_pure (p_assign rfl) rfl ?_
      refine g_nil ?_
      refine g_qt ?_
      refine g_block ?_
      refine g_loop (fun q : Nat × Int => [(1, .pointer (some ⟨b1, 0, none⟩)), (3, .int .i64 q.2), (9, .slice ca x0.2.2.2.2.2.length cc), (10, .int .i64 q.1)])
        (fun _ => [Blk b1 (.cells [.slice ea im.1.length ec, .slice ra im.2.length rc].toArray 25 (0, 0))])
        (fun q => q.1 ≤ x0.2.2.2.2.2.length ∧ (q.2 = 0 ∨ ((x0.2.2.2.2.2.take q.1).any jcB = false ∧ q.2 = x0.2.2.2.2.2.length))) (fun q => x0.2.2.2.2.2.length - q.1) (0, (x0.2.2.2.2.2.length : Int)) ⟨Nat.zero_le _, .inr ⟨rfl, rfl⟩⟩ (by (repeat (first | exact trivial | refine ⟨by rfl, ?_⟩)); done) (by repeat' (first | exact Cover.nil | exact Take.here | apply Cover.cons | apply Take.there)) ?_
      rintro ⟨j, st⟩ ⟨hj1, hj2⟩
      dsimp only at hj1 hj2 ⊢
      refine g_seq ?_
      refine g_seq ?_
      refine g_region ?_
      refine g_pure (p_move rfl) rfl ?_
      refine g_pure (p_move rfl) rfl ?_
      refine g_pure (p_len (by rfl) rfl) rfl ?_
      refine g_pure (p_lss rfl rfl) rfl ?_
      refine g_nil ?_
      refine g_qt ?_
      refine g_ifd rfl (fun s => ?_) (fun s => ?_)
      · have hjl : j < x0.2.2.2.2.2.length := by omega
        obtain ⟨c1, c2, c3⟩ := hcr (by omega)
        have c4 := (c3 j hjl).2 0 _ (by rfl)
        have hst2 : ¬ (x0.2.2.2.2.2[j].1 = 7 ∨ x0.2.2.2.2.2[j].1 = 9) → st = 0 ∨ ((x0.2.2.2.2.2.take (j + 1)).any jcB = false ∧ st = x0.2.2.2.2.2.length) := fun hne => by
          rcases hj2 with h0 | ⟨h0, h1⟩
          · exact .inl h0
          · refine .inr ⟨?_, h1⟩
            rw [List.take_add_one, List.getElem?_eq_getElem hjl, Option.toList_some, List.any_append, h0]
            simp [jcB]; omega
        generalize x0.2.2.2.2.2[j] = ii at c4 hst2
        refine g_skip ?_
        refine g_qt ?_
        refine g_seq ?_
        refine g_block ?_
        refine g_seq ?_
        refine g_region ?_
        refine g_pure (p_move rfl) rfl ?_
        refine g_pure (p_move rfl) rfl ?_
        refine g_pure (p_indexAddr rfl rfl (by omega) (fun _ => c1)) rfl ?_
        refine g_pure (p_fieldAddr rfl) rfl ?_
        refine g_pure (p_load (by rfl) rfl (Has.ro c2) (by rw [Int.toNat_natCast]; exact c4)) rfl ?_
        refine g_pure (p_eql rfl rfl) rfl ?_
        refine g_pure (p_move rfl) rfl ?_
        refine g_splitd rfl rfl (fun h1 => ?_) (fun h1 => ?_)
        · refine g_no rfl rfl rfl rfl ?_
          refine g_no rfl rfl rfl rfl ?_
          refine g_no rfl rfl rfl rfl ?_
          refine g_no rfl rfl rfl rfl ?_
          refine g_no rfl rfl rfl rfl ?_
          refine g_no rfl rfl rfl rfl ?_
          first | refine g_pure (p_pickt rfl rfl) rfl ?_ | refine g_pure (p_pickf rfl rfl) rfl ?_
          refine g_nil ?_
          refine g_qt ?_
          refine g_ift rfl ?_
          refine g_region ?_
          refine g_pure (p_assign rfl) rfl ?_
          refine g_nil ?_
          refine g_qb ?_
          refine g_qt ?_
          refine g_region ?_
          refine g_pure (p_move rfl) rfl ?_
          first | refine g_pure (p_addi rfl rfl (by omega)) rfl ?_ | refine g_pure (p_add rfl rfl) rfl ?_
          refine g_pure (p_assign rfl) rfl ?_
          refine g_nil ?_
          refine g_qn ?_
          first | exact g_next (j + 1, st) (by (repeat (first | exact trivial | refine ⟨by rfl, ?_⟩)); done) (by repeat' (first | exact Cover.nil | exact Take.here | apply Cover.cons | apply Take.there)) ⟨hjl, hst2 (by omega)⟩ (by dsimp only; omega) | exact g_next (j + 1, 0) (by (repeat (first | exact trivial | refine ⟨by rfl, ?_⟩)); done) (by repeat' (first | exact Cover.nil | exact Take.here | apply Cover.cons | apply Take.there)) ⟨hjl, .inl rfl⟩ (by dsimp only; omega)
        · refine g_yes rfl rfl ?_
          refine g_pure (p_move rfl) rfl ?_
          refine g_yes rfl rfl ?_
          refine g_pure (p_move rfl) rfl ?_
          refine g_yes rfl rfl ?_
          refine g_pure (p_indexAddr rfl rfl (by omega) (fun _ => c1)) rfl ?_
          refine g_yes rfl rfl ?_
          refine g_pure (p_fieldAddr rfl) rfl ?_
          refine g_yes rfl rfl ?_
          refine g_pure (p_load (by rfl) rfl (Has.ro c2) (by rw [Int.toNat_natCast]; exact c4)) rfl ?_
          refine g_yes rfl rfl ?_
          refine g_pure (p_eql rfl rfl) rfl ?_
          first | refine g_pure (p_pickt rfl rfl) rfl ?_ | refine g_pure (p_pickf rfl rfl) rfl ?_
          refine g_nil ?_
          refine g_qt ?_
          refine g_ifdL rfl (fun h3 => ?_) (fun h3 => ?_)
          · refine g_region ?_
            refine g_pure (p_assign rfl) rfl ?_
            refine g_nil ?_
            refine g_qb ?_
            refine g_qt ?_
            refine g_region ?_
            refine g_pure (p_move rfl) rfl ?_
            first | refine g_pure (p_addi rfl rfl (by omega)) rfl ?_ | refine g_pure (p_add rfl rfl) rfl ?_
            refine g_pure (p_assign rfl) rfl ?_
            refine g_nil ?_
            refine g_qn ?_
            first | exact g_next (j + 1, st) (by (repeat (first | exact trivial | refine ⟨by rfl, ?_⟩)); done) (by repeat' (first | exact Cover.nil | exact Take.here | apply Cover.cons | apply Take.there)) ⟨hjl, hst2 (by omega)⟩ (by dsimp only; omega) | exact g_next (j + 1, 0) (by (repeat (first | exact trivial | refine ⟨by rfl, ?_⟩)); done) (by repeat' (first | exact Cover.nil | exact Take.here | apply Cover.cons | apply Take.there)) ⟨hjl, .inl rfl⟩ (by dsimp only; omega)
          · refine g_skip ?_
            refine g_qb ?_
            refine g_qt ?_
            refine g_region ?_
            refine g_pure (p_move rfl) rfl ?_
            first | refine g_pure (p_addi rfl rfl (by omega)) rfl ?_ | refine g_pure (p_add rfl rfl) rfl ?_
            refine g_pure (p_assign rfl) rfl ?_
            refine g_nil ?_
            refine g_qn ?_
            first | exact g_next (j + 1, st) (by (repeat (first | exact trivial | refine ⟨by rfl, ?_⟩)); done) (by repeat' (first | exact Cover.nil | exact Take.here | apply Cover.cons | apply Take.there)) ⟨hjl, hst2 (by omega)⟩ (by dsimp only; omega) | exact g_next (j + 1, 0) (by (repeat (first | exact trivial | refine ⟨by rfl, ?_⟩)); done) (by repeat' (first | exact Cover.nil | exact Take.here | apply Cover.cons | apply Take.there)) ⟨hjl, .inl rfl⟩ (by dsimp only; omega)
      · have hend2 : (we = 3 ∧ wn = 0) ∨ (we = 0 ∧ 0 ≤ wn ∧ (st = 0 ∨ wn = st)) := by
          rcases hend with h1 | ⟨h1, h2, h3⟩
          · exact .inl h1
          · refine .inr ⟨h1, h2, ?_⟩
            rcases hj2 with h0 | ⟨h0, h4⟩
            · exact .inl h0
            · rw [List.take_of_length_le (by omega)] at h0
              exact .inr (by rw [h3 h0, h4])
        refine g_exit ?_
        refine g_qt_exit ?_
        refine g_qn_exit ?_
        refine g_qb_exit ?_
        refine g_qt ?_
        refine g_seq ?_
        refine g_region ?_
        first | refine g_pure (p_loadO (by rfl) rfl (by first | (apply Has.own; (repeat' (first | exact Take.here | apply Take.there)); done) | exact Has.ro (by assumption)) (by rfl)) rfl ?_ | refine g_pure (p_loadN (by rfl) rfl (by first | (apply Has.own; (repeat' (first | exact Take.here | apply Take.there)); done) | exact Has.ro (by assumption)) (by first | rfl | assumption)) rfl ?_
        refine g_call (Hin := []) (Hr := ?hr7) (R := ?rr7) rfl rfl rfl ?hin7 ?hc7 ?hk7
        case hin7 => repeat' (first | exact Cover.nil | exact Take.here | apply Cover.cons | apply Take.there)
        case hc7 => intro ρ' hρ hR; exact cW hρ
        rintro _ _ ⟨rfl, rfl⟩
        refine g_pure (p_move rfl) rfl ?_
        refine g_pure (p_extract rfl rfl) rfl ?_
        refine g_pure (p_extract rfl rfl) rfl ?_
        refine g_pure (p_assign rfl) rfl ?_
        refine g_pure (p_assign rfl) rfl ?_
        refine g_nil ?_
        refine g_qt ?_
        refine g_seq ?_
        refine g_seq ?_
        refine g_region ?_
        refine g_pure (p_move rfl) rfl ?_
        refine g_pure (p_eql rfl rfl) rfl ?_
        refine g_nil ?_
        refine g_qt ?_
        refine g_ifdL rfl (fun h1 => ?_) (fun h1 => ?_)
        · refine g_seq ?_
          refine g_region ?_
          refine g_pure (p_move rfl) rfl ?_
          refine g_pure (p_eql rfl rfl) rfl ?_
          refine g_pure (p_move rfl) rfl ?_
          refine g_splitd rfl rfl (fun h2 => ?_) (fun h2 => ?_)
          · refine g_yes rfl rfl ?_
            refine g_call (Hin := []) (Hr := ?hr8) (R := ?rr8) rfl rfl rfl ?hin8 ?hc8 ?hk8
            case hin8 => repeat' (first | exact Cover.nil | exact Take.here | apply Cover.cons | apply Take.there)
            case hc8 => intro ρ' hρ hR; exact lives_ok (hk.mono hρ)
            rintro _ _ ⟨rfl, rfl⟩
            first | refine g_pure (p_pickt rfl rfl) rfl ?_ | refine g_pure (p_pickf rfl rfl) rfl ?_
            refine g_pure (p_assign rfl) rfl ?_
            refine g_nil ?_
            refine g_qt ?_
            refine g_ret ?_
            refine g_qt_ret ?_
            first | exact g_post (rs := [.tmp 2]) rfl (.tmp rfl .nil) rfl (by repeat' (first | exact Cover.nil | exact Take.here | apply Cover.cons | apply Take.there)) | (exfalso; omega)
          · refine g_no rfl rfl rfl rfl ?_
            first | refine g_pure (p_pickt rfl rfl) rfl ?_ | refine g_pure (p_pickf rfl rfl) rfl ?_
            refine g_pure (p_assign rfl) rfl ?_
            refine g_nil ?_
            refine g_qt ?_
            refine g_ret ?_
            refine g_qt_ret ?_
            first | exact g_post (rs := [.tmp 2]) rfl (.tmp rfl .nil) rfl (by repeat' (first | exact Cover.nil | exact Take.here | apply Cover.cons | apply Take.there)) | (exfalso; omega)
        · refine g_skip ?_
          refine g_qt ?_
          refine g_seq ?_
          refine g_region ?_
          refine g_pure (p_move rfl) rfl ?_
          refine g_pure (p_eql rfl rfl) rfl ?_
          refine g_pure (p_move rfl) rfl ?_
          refine g_splitd rfl rfl (fun h3 => ?_) (fun h3 => ?_)
          · refine g_yes rfl rfl ?_
            refine g_pure (p_move rfl) rfl ?_
            refine g_yes rfl rfl ?_
            refine g_pure (p_geq rfl rfl) rfl ?_
            first | refine g_pure (p_pickt rfl rfl) rfl ?_ | refine g_pure (p_pickf rfl rfl) rfl ?_
            refine g_pure (p_move rfl) rfl ?_
            refine g_splitd rfl rfl (fun h4 => ?_) (fun h4 => ?_)
            · refine g_yes rfl rfl ?_
              refine g_pure (p_move rfl) rfl ?_
              refine g_yes rfl rfl ?_
              refine g_pure (p_eql rfl rfl) rfl ?_
              refine g_yes rfl rfl ?_
              refine g_pure (p_move rfl) rfl ?_
              refine g_splitd rfl rfl (fun h5 => ?_) (fun h5 => ?_)
              · refine g_no rfl rfl rfl rfl ?_
                refine g_no rfl rfl rfl rfl ?_
                refine g_no rfl rfl rfl rfl ?_
                refine g_yes rfl rfl ?_
                first | refine g_pure (p_pickt rfl rfl) rfl ?_ | refine g_pure (p_pickf rfl rfl) rfl ?_
                first | refine g_pure (p_pickt rfl rfl) rfl ?_ | refine g_pure (p_pickf rfl rfl) rfl ?_
                refine g_pure (p_move rfl) rfl ?_
                refine g_yes rfl rfl ?_
                refine g_call (Hin := []) (Hr := ?hr9) (R := ?rr9) rfl rfl rfl ?hin9 ?hc9 ?hk9
                case hin9 => repeat' (first | exact Cover.nil | exact Take.here | apply Cover.cons | apply Take.there)
                case hc9 => intro ρ' hρ hR; exact lives_ok (hk.mono hρ)
                rintro _ _ ⟨rfl, rfl⟩
                first | refine g_pure (p_pickt rfl rfl) rfl ?_ | refine g_pure (p_pickf rfl rfl) rfl ?_
                refine g_pure (p_assign rfl) rfl ?_
                refine g_nil ?_
                refine g_qt ?_
                refine g_ret ?_
                first | exact g_post (rs := [.tmp 2]) rfl (.tmp rfl .nil) rfl (by repeat' (first | exact Cover.nil | exact Take.here | apply Cover.cons | apply Take.there)) | (exfalso; omega)
              · refine g_yes rfl rfl ?_
                refine g_pure (p_move rfl) rfl ?_
                refine g_yes rfl rfl ?_
                refine g_pure (p_move rfl) rfl ?_
                refine g_yes rfl rfl ?_
                refine g_pure (p_eql rfl rfl) rfl ?_
                refine g_yes rfl rfl ?_
                first | refine g_pure (p_pickt rfl rfl) rfl ?_ | refine g_pure (p_pickf rfl rfl) rfl ?_
                first | refine g_pure (p_pickt rfl rfl) rfl ?_ | refine g_pure (p_pickf rfl rfl) rfl ?_
                refine g_pure (p_move rfl) rfl ?_
                refine g_splitd rfl rfl (fun h7 => ?_) (fun h7 => ?_)
                · refine g_yes rfl rfl ?_
                  refine g_call (Hin := []) (Hr := ?hr10) (R := ?rr10) rfl rfl rfl ?hin10 ?hc10 ?hk10
                  case hin10 => repeat' (first | exact Cover.nil | exact Take.here | apply Cover.cons | apply Take.there)
                  case hc10 => intro ρ' hρ hR; exact lives_ok (hk.mono hρ)
                  rintro _ _ ⟨rfl, rfl⟩
                  first | refine g_pure (p_pickt rfl rfl) rfl ?_ | refine g_pure (p_pickf rfl rfl) rfl ?_
                  refine g_pure (p_assign rfl) rfl ?_
                  refine g_nil ?_
                  refine g_qt ?_
                  refine g_ret ?_
                  first | exact g_post (rs := [.tmp 2]) rfl (.tmp rfl .nil) rfl (by repeat' (first | exact Cover.nil | exact Take.here | apply Cover.cons | apply Take.there)) | (exfalso; omega)
                · refine g_no rfl rfl rfl rfl ?_
                  first | refine g_pure (p_pickt rfl rfl) rfl ?_ | refine g_pure (p_pickf rfl rfl) rfl ?_
                  refine g_pure (p_assign rfl) rfl ?_
                  refine g_nil ?_
                  refine g_qt ?_
                  refine g_ret ?_
                  first | exact g_post (rs := [.tmp 2]) rfl (.tmp rfl .nil) rfl (by repeat' (first | exact Cover.nil | exact Take.here | apply Cover.cons | apply Take.there)) | (exfalso; omega)
            · refine g_no rfl rfl rfl rfl ?_
              refine g_no rfl rfl rfl rfl ?_
              refine g_no rfl rfl rfl rfl ?_
              refine g_nou rfl rfl rfl ?_
              refine g_nou rfl rfl rfl ?_
              refine g_nou rfl rfl rfl ?_
              refine g_no rfl rfl rfl rfl ?_
              first | refine g_pure (p_pickt rfl rfl) rfl ?_ | refine g_pure (p_pickf rfl rfl) rfl ?_
              refine g_pure (p_move rfl) rfl ?_
              refine g_no rfl rfl rfl rfl ?_
              first | refine g_pure (p_pickt rfl rfl) rfl ?_ | refine g_pure (p_pickf rfl rfl) rfl ?_
              refine g_pure (p_assign rfl) rfl ?_
              refine g_nil ?_
              refine g_qt ?_
              refine g_ret ?_
              first | exact g_post (rs := [.tmp 2]) rfl (.tmp rfl .nil) rfl (by repeat' (first | exact Cover.nil | exact Take.here | apply Cover.cons | apply Take.there)) | (exfalso; omega)
          · refine g_no rfl rfl rfl rfl ?_
            refine g_no rfl rfl rfl rfl ?_
            first | refine g_pure (p_pickt rfl rfl) rfl ?_ | refine g_pure (p_pickf rfl rfl) rfl ?_
            refine g_pure (p_move rfl) rfl ?_
            refine g_no rfl rfl rfl rfl ?_
            refine g_no rfl rfl rfl rfl ?_
            refine g_no rfl rfl rfl rfl ?_
            refine g_nou rfl rfl rfl ?_
            refine g_nou rfl rfl rfl ?_
            refine g_nou rfl rfl rfl ?_
            refine g_no rfl rfl rfl rfl ?_
            first | refine g_pure (p_pickt rfl rfl) rfl ?_ | refine g_pure (p_pickf rfl rfl) rfl ?_
            refine g_pure (p_move rfl) rfl ?_
            refine g_no rfl rfl rfl rfl ?_
            first | refine g_pure (p_pickt rfl rfl) rfl ?_ | refine g_pure (p_pickf rfl rfl) rfl ?_
            refine g_pure (p_assign rfl) rfl ?_
            refine g_nil ?_
            refine g_qt ?_
            refine g_ret ?_
            first | exact g_post (rs := [.tmp 2]) rfl (.tmp rfl .nil) rfl (by repeat' (first | exact Cover.nil | exact Take.here | apply Cover.cons | apply Take.there)) | (exfalso; omega)
end Go.Proofs.YtcnfcoojmbjdlaaGreatDoor
/- Chapter 26, plain: the document's way to check an image. Conditions: none. -/
namespace Go.Z.Asm
set_option maxRecDepth 8000
set_option linter.unusedVariables false
set_option linter.unusedSimpArgs false
set_option linter.unusedSectionVars false
open Go Go.Z Go.Lib

def fieldsRT : List (List UInt8) := [[], [65, 66], [65, 66], [65, 66], [65, 66], [65, 66, 67], [65, 66, 67, 68], [66], [65, 66], [65, 66, 67, 68], [65, 66]]
def fieldsR (op : Int) : List UInt8 := if knownP op then fieldsRT.getD op.toNat [] else []
def lettersP : List UInt8 := [65, 66, 67, 68]
def fieldI (i : Ins) (c : UInt8) : Int := if c = 65 then i.2.1 else if c = 66 then i.2.2.1 else if c = 67 then i.2.2.2.1 else i.2.2.2.2
def zeroR (i : Ins) (c : UInt8) : Bool := (fieldsR i.1).contains c || decide (fieldI i c = 0)
def lastR (len at' : Int) (i : Ins) : Bool := if i.1 = 5 then decide (i.2.2.2.1 = 1 ∨ i.2.2.2.1 = 2) else if i.1 = 6 then decide (3 ≤ i.2.2.2.2 ∧ i.2.2.2.2 ≤ 16) else if i.1 = 7 ∨ i.1 = 8 then decide (at' < i.2.2.1 ∧ i.2.2.1 ≤ len) else true
theorem operands_one (x : Int) : operandsP x = 1 ↔ x = 1 ∨ x = 2 := by
  unfold operandsP
  split
  · simpa
  · split <;> omega
theorem operands_two (x : Int) : operandsP x = 2 ↔ 3 ≤ x ∧ x ≤ 16 := by
  unfold operandsP
  split
  · omega
  · split <;> omega
theorem form_ref (len at' : Int) (i : Ins) : formP len at' i = (decide (knownP i.1) && (lettersP.all (zeroR i) && lastR len at' i)) := by
  obtain ⟨op, A, B, C, D⟩ := i
  by_cases hk : knownP op
  · unfold formP
    rw [decide_eq_true (p := knownP (op, A, B, C, D).1) hk, Bool.true_and, Bool.true_and]
    have h1 := operands_one C
    have h2 := operands_two D
    rw [Bool.eq_iff_iff]
    rcases op_cases hk with rfl | rfl | rfl | rfl | rfl | rfl | rfl | rfl | rfl | rfl <;> simp [opRow, knownP, opT, fieldsV, formT, lettersP, zeroR, lastR, fieldsR, fieldsRT, fieldI, h1, h2] <;> omega
  · unfold formP
    rw [decide_eq_false (p := knownP (op, A, B, C, D).1) hk]; rfl
/-- the document's ranges, operation by operation -/
def rangesR (rts : List Rt) (k : Nat) (x : Rt) (i : Ins) : Bool :=
  let regs := x.2.2.2.1
  let mems : Int := x.2.2.2.2.1.length
  if i.1 = 1 then decide (withinP i.2.1 1 regs) && decide (-32768 ≤ i.2.2.1 ∧ i.2.2.1 ≤ 32767)
  else if i.1 = 2 ∨ i.1 = 5 then decide (withinP i.2.1 1 regs) && decide (withinP i.2.2.1 1 regs)
  else if i.1 = 3 then decide (withinP i.2.1 1 regs) && decide (withinP i.2.2.1 1 mems)
  else if i.1 = 4 then decide (withinP i.2.1 1 mems) && decide (withinP i.2.2.1 1 regs)
  else if i.1 = 6 then decide (withinP i.2.1 1 regs) && (decide (withinP i.2.2.1 1 regs) && decide (withinP i.2.2.2.1 1 regs))
  else if i.1 = 8 then decide (withinP i.2.1 1 regs)
  else if i.1 = 9 ∨ i.1 = 10 then
    if i.2.1 < 0 ∨ k ≤ i.2.1 then false
    else decide (withinP i.2.2.1 (calledP rts i.2.1).2.2.2.2.1.length mems) && (decide (i.1 = 10) || (decide (withinP i.2.2.2.1 (calledP rts i.2.1).2.1.length regs) && decide (withinP i.2.2.2.2 (calledP rts i.2.1).2.2.1.length regs)))
  else true
theorem ranges_ref (rts : List Rt) (k : Nat) (hk : k < rts.length) (i : Ins) : rangesP rts k i = rangesR rts k rts[k] i := by
  obtain ⟨op, A, B, C, D⟩ := i
  have hget : rts.getD k emptyRt = rts[k] := by rw [List.getD_eq_getElem?_getD, List.getElem?_eq_getElem hk]; rfl
  unfold rangesP
  rw [hget]
  dsimp only
  generalize rts[k] = x
  generalize hy : calledP rts A = y
  by_cases hn : knownP op
  · rw [Bool.eq_iff_iff]
    rcases op_cases hn with rfl | rfl | rfl | rfl | rfl | rfl | rfl | rfl | rfl | rfl <;> simp [opRow, knownP, opT, fieldsV, rangeT, rangesR, hy]
    all_goals (by_cases h0 : A < 0 <;> by_cases h1 : (k : Int) ≤ A <;> simp [h0, h1] <;> omega)
  · unfold rangesR opRow
    rw [if_neg hn]
    unfold knownP at hn
    dsimp only
    rw [if_neg (by omega), if_neg (by omega), if_neg (by omega), if_neg (by omega), if_neg (by omega), if_neg (by omega), if_neg (by omega)]
    rfl
def typedB (n : Nat) (t : Int) : Bool := decide (1 ≤ t ∧ t < 3 + (n : Int))
theorem typed_ref (enums : List Int) (l m : List Int) : (l ++ m).any (fun t => !decide (validP enums t)) = !(l.all (typedB enums.length) && m.all (typedB enums.length)) := by
  have h : (fun t => !decide (validP enums t)) = fun t => !typedB enums.length t := by
    funext t
    unfold typedB
    rw [decide_eq_decide.2 (show validP enums t ↔ 1 ≤ t ∧ t < 3 + (enums.length : Int) by unfold validP; omega)]
  rw [h, List.any_append]
  have h2 : ∀ l : List Int, l.any (fun t => !typedB enums.length t) = !l.all (typedB enums.length) := fun l => by rw [List.not_all_eq_any_not]
  rw [h2, h2]
  cases l.all (typedB enums.length) <;> cases m.all (typedB enums.length) <;> rfl
theorem contains_take {s : List UInt8} {c : UInt8} {k : Nat} (hk : k < s.length) (h : c ∉ s.take k) : (s[k] = c → s.contains c = true) ∧ (s[k] ≠ c → c ∉ s.take (k + 1)) := by
  refine ⟨fun e => by rw [← e]; simp, fun e => ?_⟩
  rw [List.take_add_one, List.getElem?_eq_getElem hk, Option.toList_some, List.mem_append, List.mem_singleton]
  rintro (h1 | h1)
  · exact h h1
  · exact e h1.symm
end Go.Z.Asm
/- Chapter 26: the document's check: its small functions. Conditions: none. -/
namespace Go.Z.Asm
set_option maxRecDepth 8000
set_option linter.unusedVariables false
set_option linter.unusedSimpArgs false
set_option linter.unusedSectionVars false
open Go Go.Z Go.Lib
theorem strB_at (s : List UInt8) {k : Nat} (hk : k < s.length) : (strB s).data.toList[(k : Int).toNat]? = some s[k] := by
  show s[(k : Int).toNat]? = _
  rw [Int.toNat_natCast, List.getElem?_eq_getElem hk]
theorem take_char {s : List UInt8} {k : Nat} {f : UInt8 → Bool} (hk : k < s.length) (h : (s.take k).all f = true) : (f s[k] = true → (s.take (k + 1)).all f = true) ∧ (f s[k] = false → s.all f = false) := by
  constructor
  · intro e
    rw [List.take_add_one, List.getElem?_eq_getElem hk, Option.toList_some, List.all_append, h]; simpa using e
  · intro e
    rw [List.all_eq_false]
    exact ⟨s[k], List.getElem_mem hk, by rw [e]; decide⟩
theorem take_int {s : List Int} {k : Nat} {f : Int → Bool} (hk : k < s.length) (h : (s.take k).all f = true) : (f s[k] = true → (s.take (k + 1)).all f = true) ∧ (f s[k] = false → s.all f = false) := by
  constructor
  · intro e
    rw [List.take_add_one, List.getElem?_eq_getElem hk, Option.toList_some, List.all_append, h]; simpa using e
  · intro e
    rw [List.all_eq_false]
    exact ⟨s[k], List.getElem_mem hk, by rw [e]; decide⟩
end Go.Z.Asm
namespace Go.Proofs.YtcnfcoojmbjdlaaGreatDoor
set_option maxRecDepth 8000
set_option linter.unusedVariables false
set_option linter.unusedSimpArgs false
set_option linter.unusedSectionVars false
open Go Go.Z Go.Z.Asm

theorem rname_ok {ρ : Nat → Obj → Prop} (s : List UInt8) (hs : s.length ≤ 9223372036854775807) : Con Tryz.prog ρ 64 #[.string (strB s)] [] (fun v H => v = .bool (titleP s) ∧ H = []) := by
  have hsz : (strB s).size = s.length := rfl
  have hnil : strB s = ⟨#[]⟩ ↔ s = [] := strB_inj (b := [])
  have hT : ¬ s = [] → s.length ≤ 40 → titleP s = s.all charP := fun h1 h2 => by unfold titleP; rw [decide_eq_true h1, decide_eq_true h2]; simp
  have hF1 : s = [] → titleP s = false := fun h => by unfold titleP; rw [decide_eq_false (fun h' => h' h)]; rfl
  have hF2 : ¬ s.length ≤ 40 → titleP s = false := fun h => by unfold titleP; rw [decide_eq_false h]; simp
  refine con_intro Tryz.func64 Tryz.call64 rfl Tryz.ntmps64 rfl (L := [(0, _)]) rfl fun w hh => ?_
  refine g_seq ?_
  refine g_region ?_
  refine g_pure (p_assign rfl) rfl ?_
  refine g_nil ?_
  refine g_qt ?_
  refine g_seq ?_
  refine g_join (fun _ : Unit => [(0, .string (strB s))]) (fun _ => []) (fun _ => ¬ s = [] ∧ s.length ≤ 40) ?_ ?_
  · refine g_seq ?_
    refine g_region ?_
    refine g_pure (p_move rfl) rfl ?_
    refine g_pure (p_eqls (i := strB s) (j := ⟨#[]⟩) (by rfl) rfl rfl) rfl ?_
    refine g_pure (p_move rfl) rfl ?_
    refine g_splitd rfl rfl (fun h1 => ?_) (fun h1 => ?_)
    · refine g_no rfl rfl rfl rfl ?_
      refine g_no rfl rfl rfl rfl ?_
      refine g_no rfl rfl rfl rfl ?_
      first | refine g_pure (p_pickt rfl rfl) rfl ?_ | refine g_pure (p_pickf rfl rfl) rfl ?_
      refine g_nil ?_
      refine g_qt ?_
      refine g_ift rfl ?_
      refine g_seq ?_
      refine g_region ?_
      refine g_pure (p_assign rfl) rfl ?_
      refine g_nil ?_
      refine g_qt ?_
      refine g_ret ?_
      refine g_qn_ret ?_
      refine g_qt_ret ?_
      first | exact g_post (rs := [.tmp 2]) rfl (.tmp rfl .nil) ⟨by rw [hF1 (hnil.1 (by assumption))]; rfl, rfl⟩ (by repeat' (first | exact Cover.nil | exact Take.here | apply Cover.cons | apply Take.there)) | exact g_post (rs := [.tmp 2]) rfl (.tmp rfl .nil) ⟨by rw [hF2 (by omega)]; rfl, rfl⟩ (by repeat' (first | exact Cover.nil | exact Take.here | apply Cover.cons | apply Take.there))
    · refine g_yes rfl rfl ?_
      refine g_pure (p_move rfl) rfl ?_
      refine g_yes rfl rfl ?_
      refine g_pure (p_lens (by rfl) rfl) rfl ?_
      refine g_yes rfl rfl ?_
      refine g_pure (p_gtr rfl rfl) rfl ?_
      first | refine g_pure (p_pickt rfl rfl) rfl ?_ | refine g_pure (p_pickf rfl rfl) rfl ?_
      refine g_nil ?_
      refine g_qt ?_
      refine g_ifdL rfl (fun h3 => ?_) (fun h3 => ?_)
      · refine g_seq ?_
        refine g_region ?_
        refine g_pure (p_assign rfl) rfl ?_
        refine g_nil ?_
        refine g_qt ?_
        refine g_ret ?_
        refine g_qn_ret ?_
        refine g_qt_ret ?_
        first | exact g_post (rs := [.tmp 2]) rfl (.tmp rfl .nil) ⟨by rw [hF1 (hnil.1 (by assumption))]; rfl, rfl⟩ (by repeat' (first | exact Cover.nil | exact Take.here | apply Cover.cons | apply Take.there)) | exact g_post (rs := [.tmp 2]) rfl (.tmp rfl .nil) ⟨by rw [hF2 (by omega)]; rfl, rfl⟩ (by repeat' (first | exact Cover.nil | exact Take.here | apply Cover.cons | apply Take.there))
      · refine g_skip ?_
        refine g_qn ?_
        exact g_joined () (by (repeat (first | exact trivial | refine ⟨by rfl, ?_⟩)); done) (by repeat' (first | exact Cover.nil | exact Take.here | apply Cover.cons | apply Take.there)) ⟨fun e => by have := hnil.2 e; contradiction, by omega⟩
  rintro _ ⟨h1, h2⟩
  refine g_qt ?_
  rw [hT h1 h2]
  refine g_seq ?_
  refine g_seq ?_
  refine g_region ?_
  refine g_pure (p_assign rfl) rfl ?_
  refine g_nil ?_
  refine g_qt ?_
  refine g_block ?_
  refine g_loop (fun k : Nat => [(0, .string (strB s)), (3, .int .i64 k)]) (fun _ => []) (fun k => k ≤ s.length ∧ (s.take k).all charP = true) (fun k => s.length - k) 0 ⟨Nat.zero_le _, rfl⟩ (by (repeat (first | exact trivial | refine ⟨by rfl, ?_⟩)); done) (by repeat' (first | exact Cover.nil | exact Take.here | apply Cover.cons | apply Take.there)) ?_
  rintro k ⟨hk1, hk2⟩
  refine g_seq ?_
  refine g_seq ?_
  refine g_region ?_
  refine g_pure (p_move rfl) rfl ?_
  refine g_pure (p_move rfl) rfl ?_
  refine g_pure (p_lens (by rfl) rfl) rfl ?_
  refine g_pure (p_lss rfl rfl) rfl ?_
  refine g_nil ?_
  refine g_qt ?_
  refine g_ifd rfl (fun q => ?_) (fun q => ?_)
  · have hkl : k < s.length := by omega
    obtain ⟨t1, t2⟩ := take_char hkl hk2
    have hx := strB_at s hkl
    generalize s[k] = c at t1 t2 hx
    have cT : (decide (c.toNat = 95) || (decide (48 ≤ c.toNat ∧ c.toNat ≤ 57) || (decide (65 ≤ c.toNat ∧ c.toNat ≤ 90) || decide (97 ≤ c.toNat ∧ c.toNat ≤ 122)))) = charP c := rfl
    have c1 : c.toNat = 95 ∨ (48 ≤ c.toNat ∧ c.toNat ≤ 57) ∨ (65 ≤ c.toNat ∧ c.toNat ≤ 90) ∨ (97 ≤ c.toNat ∧ c.toNat ≤ 122) → charP c = true := fun h => by rw [← cT]; simp; exact h
    have c2 : ¬ (c.toNat = 95 ∨ (48 ≤ c.toNat ∧ c.toNat ≤ 57) ∨ (65 ≤ c.toNat ∧ c.toNat ≤ 90) ∨ (97 ≤ c.toNat ∧ c.toNat ≤ 122)) → charP c = false := fun h => by rw [← cT, ← Bool.not_eq_true]; simpa using h
    refine g_skip ?_
    refine g_qt ?_
    refine g_seq ?_
    refine g_block ?_
    refine g_seq ?_
    refine g_region ?_
    refine g_pure (p_move rfl) rfl ?_
    refine g_pure (p_move rfl) rfl ?_
    refine g_pure (p_indexs (by rfl) rfl rfl (by omega) hx) rfl ?_
    refine g_pure (p_assign rfl) rfl ?_
    refine g_nil ?_
    refine g_qt ?_
    refine g_seq ?_
    refine g_region ?_
    refine g_pure (p_move rfl) rfl ?_
    refine g_pure (p_geq rfl rfl) rfl ?_
    refine g_pure (p_move rfl) rfl ?_
    refine g_splitd rfl rfl (fun h1 => ?_) (fun h1 => ?_)
    · refine g_yes rfl rfl ?_
      refine g_pure (p_move rfl) rfl ?_
      refine g_yes rfl rfl ?_
      refine g_pure (p_leq rfl rfl) rfl ?_
      first | refine g_pure (p_pickt rfl rfl) rfl ?_ | refine g_pure (p_pickf rfl rfl) rfl ?_
      refine g_pure (p_move rfl) rfl ?_
      refine g_splitd rfl rfl (fun h2 => ?_) (fun h2 => ?_)
      · refine g_no rfl rfl rfl rfl ?_
        refine g_no rfl rfl rfl rfl ?_
        refine g_no rfl rfl rfl rfl ?_
        refine g_nou rfl rfl rfl ?_
        refine g_nou rfl rfl rfl ?_
        refine g_no rfl rfl rfl rfl ?_
        first | refine g_pure (p_pickt rfl rfl) rfl ?_ | refine g_pure (p_pickf rfl rfl) rfl ?_
        refine g_pure (p_move rfl) rfl ?_
        refine g_no rfl rfl rfl rfl ?_
        refine g_no rfl rfl rfl rfl ?_
        refine g_no rfl rfl rfl rfl ?_
        refine g_nou rfl rfl rfl ?_
        refine g_nou rfl rfl rfl ?_
        refine g_no rfl rfl rfl rfl ?_
        first | refine g_pure (p_pickt rfl rfl) rfl ?_ | refine g_pure (p_pickf rfl rfl) rfl ?_
        refine g_pure (p_move rfl) rfl ?_
        refine g_no rfl rfl rfl rfl ?_
        refine g_no rfl rfl rfl rfl ?_
        first | refine g_pure (p_pickt rfl rfl) rfl ?_ | refine g_pure (p_pickf rfl rfl) rfl ?_
        refine g_pure (p_not rfl) rfl ?_
        refine g_nil ?_
        refine g_qt ?_
        refine g_iff rfl ?_
        refine g_skip ?_
        refine g_qb ?_
        refine g_qt ?_
        refine g_region ?_
        refine g_pure (p_move rfl) rfl ?_
        first | refine g_pure (p_addi rfl rfl (by omega)) rfl ?_ | refine g_pure (p_add rfl rfl) rfl ?_
        refine g_pure (p_assign rfl) rfl ?_
        refine g_nil ?_
        refine g_qn ?_
        exact g_next (k + 1) (by (repeat (first | exact trivial | refine ⟨by rfl, ?_⟩)); done) (by repeat' (first | exact Cover.nil | exact Take.here | apply Cover.cons | apply Take.there)) ⟨hkl, t1 (c1 (by omega))⟩ (by omega)
      · refine g_yes rfl rfl ?_
        refine g_pure (p_move rfl) rfl ?_
        refine g_yes rfl rfl ?_
        refine g_pure (p_geq rfl rfl) rfl ?_
        refine g_yes rfl rfl ?_
        refine g_pure (p_move rfl) rfl ?_
        refine g_splitd rfl rfl (fun h8 => ?_) (fun h8 => ?_)
        · refine g_yes rfl rfl ?_
          refine g_pure (p_move rfl) rfl ?_
          refine g_yes rfl rfl ?_
          refine g_pure (p_leq rfl rfl) rfl ?_
          refine g_yes rfl rfl ?_
          first | refine g_pure (p_pickt rfl rfl) rfl ?_ | refine g_pure (p_pickf rfl rfl) rfl ?_
          first | refine g_pure (p_pickt rfl rfl) rfl ?_ | refine g_pure (p_pickf rfl rfl) rfl ?_
          refine g_pure (p_move rfl) rfl ?_
          refine g_splitd rfl rfl (fun h9 => ?_) (fun h9 => ?_)
          · refine g_no rfl rfl rfl rfl ?_
            refine g_no rfl rfl rfl rfl ?_
            refine g_no rfl rfl rfl rfl ?_
            refine g_nou rfl rfl rfl ?_
            refine g_nou rfl rfl rfl ?_
            refine g_no rfl rfl rfl rfl ?_
            first | refine g_pure (p_pickt rfl rfl) rfl ?_ | refine g_pure (p_pickf rfl rfl) rfl ?_
            refine g_pure (p_move rfl) rfl ?_
            refine g_no rfl rfl rfl rfl ?_
            refine g_no rfl rfl rfl rfl ?_
            first | refine g_pure (p_pickt rfl rfl) rfl ?_ | refine g_pure (p_pickf rfl rfl) rfl ?_
            refine g_pure (p_not rfl) rfl ?_
            refine g_nil ?_
            refine g_qt ?_
            refine g_iff rfl ?_
            refine g_skip ?_
            refine g_qb ?_
            refine g_qt ?_
            refine g_region ?_
            refine g_pure (p_move rfl) rfl ?_
            first | refine g_pure (p_addi rfl rfl (by omega)) rfl ?_ | refine g_pure (p_add rfl rfl) rfl ?_
            refine g_pure (p_assign rfl) rfl ?_
            refine g_nil ?_
            refine g_qn ?_
            exact g_next (k + 1) (by (repeat (first | exact trivial | refine ⟨by rfl, ?_⟩)); done) (by repeat' (first | exact Cover.nil | exact Take.here | apply Cover.cons | apply Take.there)) ⟨hkl, t1 (c1 (by omega))⟩ (by omega)
          · refine g_yes rfl rfl ?_
            refine g_pure (p_move rfl) rfl ?_
            refine g_yes rfl rfl ?_
            refine g_pure (p_geq rfl rfl) rfl ?_
            refine g_yes rfl rfl ?_
            refine g_pure (p_move rfl) rfl ?_
            refine g_splitd rfl rfl (fun h13 => ?_) (fun h13 => ?_)
            · refine g_yes rfl rfl ?_
              refine g_pure (p_move rfl) rfl ?_
              refine g_yes rfl rfl ?_
              refine g_pure (p_leq rfl rfl) rfl ?_
              refine g_yes rfl rfl ?_
              first | refine g_pure (p_pickt rfl rfl) rfl ?_ | refine g_pure (p_pickf rfl rfl) rfl ?_
              first | refine g_pure (p_pickt rfl rfl) rfl ?_ | refine g_pure (p_pickf rfl rfl) rfl ?_
              refine g_pure (p_move rfl) rfl ?_
              refine g_splitd rfl rfl (fun h14 => ?_) (fun h14 => ?_)
              · refine g_no rfl rfl rfl rfl ?_
                refine g_no rfl rfl rfl rfl ?_
                first | refine g_pure (p_pickt rfl rfl) rfl ?_ | refine g_pure (p_pickf rfl rfl) rfl ?_
                refine g_pure (p_not rfl) rfl ?_
                refine g_nil ?_
                refine g_qt ?_
                refine g_iff rfl ?_
                refine g_skip ?_
                refine g_qb ?_
                refine g_qt ?_
                refine g_region ?_
                refine g_pure (p_move rfl) rfl ?_
                first | refine g_pure (p_addi rfl rfl (by omega)) rfl ?_ | refine g_pure (p_add rfl rfl) rfl ?_
                refine g_pure (p_assign rfl) rfl ?_
                refine g_nil ?_
                refine g_qn ?_
                exact g_next (k + 1) (by (repeat (first | exact trivial | refine ⟨by rfl, ?_⟩)); done) (by repeat' (first | exact Cover.nil | exact Take.here | apply Cover.cons | apply Take.there)) ⟨hkl, t1 (c1 (by omega))⟩ (by omega)
              · refine g_yes rfl rfl ?_
                refine g_pure (p_move rfl) rfl ?_
                refine g_yes rfl rfl ?_
                refine g_pure (p_eql rfl rfl) rfl ?_
                first | refine g_pure (p_pickt rfl rfl) rfl ?_ | refine g_pure (p_pickf rfl rfl) rfl ?_
                refine g_pure (p_not rfl) rfl ?_
                refine g_nil ?_
                refine g_qt ?_
                refine g_ifndL rfl (fun h16 => ?_) (fun h16 => ?_)
                · refine g_seq ?_
                  refine g_region ?_
                  refine g_pure (p_assign rfl) rfl ?_
                  refine g_nil ?_
                  refine g_qt ?_
                  refine g_ret ?_
                  refine g_qb_ret ?_
                  refine g_qt_ret ?_
                  refine g_qn_ret ?_
                  refine g_qb_ret ?_
                  refine g_qt_ret ?_
                  exact g_post (rs := [.tmp 2]) rfl (.tmp rfl .nil) ⟨by rw [t2 (c2 (by omega))]; rfl, rfl⟩ (by repeat' (first | exact Cover.nil | exact Take.here | apply Cover.cons | apply Take.there))
                · refine g_skip ?_
                  refine g_qb ?_
                  refine g_qt ?_
                  refine g_region ?_
                  refine g_pure (p_move rfl) rfl ?_
                  first | refine g_pure (p_addi rfl rfl (by omega)) rfl ?_ | refine g_pure (p_add rfl rfl) rfl ?_
                  refine g_pure (p_assign rfl) rfl ?_
                  refine g_nil ?_
                  refine g_qn ?_
                  exact g_next (k + 1) (by (repeat (first | exact trivial | refine ⟨by rfl, ?_⟩)); done) (by repeat' (first | exact Cover.nil | exact Take.here | apply Cover.cons | apply Take.there)) ⟨hkl, t1 (c1 (by omega))⟩ (by omega)
            · refine g_no rfl rfl rfl rfl ?_
              refine g_no rfl rfl rfl rfl ?_
              refine g_yes rfl rfl ?_
              first | refine g_pure (p_pickt rfl rfl) rfl ?_ | refine g_pure (p_pickf rfl rfl) rfl ?_
              first | refine g_pure (p_pickt rfl rfl) rfl ?_ | refine g_pure (p_pickf rfl rfl) rfl ?_
              refine g_pure (p_move rfl) rfl ?_
              refine g_yes rfl rfl ?_
              refine g_pure (p_move rfl) rfl ?_
              refine g_yes rfl rfl ?_
              refine g_pure (p_eql rfl rfl) rfl ?_
              first | refine g_pure (p_pickt rfl rfl) rfl ?_ | refine g_pure (p_pickf rfl rfl) rfl ?_
              refine g_pure (p_not rfl) rfl ?_
              refine g_nil ?_
              refine g_qt ?_
              refine g_ifndL rfl (fun h18 => ?_) (fun h18 => ?_)
              · refine g_seq ?_
                refine g_region ?_
                refine g_pure (p_assign rfl) rfl ?_
                refine g_nil ?_
                refine g_qt ?_
                refine g_ret ?_
                refine g_qb_ret ?_
                refine g_qt_ret ?_
                refine g_qn_ret ?_
                refine g_qb_ret ?_
                refine g_qt_ret ?_
                exact g_post (rs := [.tmp 2]) rfl (.tmp rfl .nil) ⟨by rw [t2 (c2 (by omega))]; rfl, rfl⟩ (by repeat' (first | exact Cover.nil | exact Take.here | apply Cover.cons | apply Take.there))
              · refine g_skip ?_
                refine g_qb ?_
                refine g_qt ?_
                refine g_region ?_
                refine g_pure (p_move rfl) rfl ?_
                first | refine g_pure (p_addi rfl rfl (by omega)) rfl ?_ | refine g_pure (p_add rfl rfl) rfl ?_
                refine g_pure (p_assign rfl) rfl ?_
                refine g_nil ?_
                refine g_qn ?_
                exact g_next (k + 1) (by (repeat (first | exact trivial | refine ⟨by rfl, ?_⟩)); done) (by repeat' (first | exact Cover.nil | exact Take.here | apply Cover.cons | apply Take.there)) ⟨hkl, t1 (c1 (by omega))⟩ (by omega)
        · refine g_no rfl rfl rfl rfl ?_
          refine g_no rfl rfl rfl rfl ?_
          refine g_yes rfl rfl ?_
          first | refine g_pure (p_pickt rfl rfl) rfl ?_ | refine g_pure (p_pickf rfl rfl) rfl ?_
          first | refine g_pure (p_pickt rfl rfl) rfl ?_ | refine g_pure (p_pickf rfl rfl) rfl ?_
          refine g_pure (p_move rfl) rfl ?_
          refine g_yes rfl rfl ?_
          refine g_pure (p_move rfl) rfl ?_
          refine g_yes rfl rfl ?_
          refine g_pure (p_geq rfl rfl) rfl ?_
          refine g_yes rfl rfl ?_
          refine g_pure (p_move rfl) rfl ?_
          refine g_splitd rfl rfl (fun h20 => ?_) (fun h20 => ?_)
          · refine g_yes rfl rfl ?_
            refine g_pure (p_move rfl) rfl ?_
            refine g_yes rfl rfl ?_
            refine g_pure (p_leq rfl rfl) rfl ?_
            refine g_yes rfl rfl ?_
            first | refine g_pure (p_pickt rfl rfl) rfl ?_ | refine g_pure (p_pickf rfl rfl) rfl ?_
            first | refine g_pure (p_pickt rfl rfl) rfl ?_ | refine g_pure (p_pickf rfl rfl) rfl ?_
            refine g_pure (p_move rfl) rfl ?_
            refine g_splitd rfl rfl (fun h21 => ?_) (fun h21 => ?_)
            · refine g_no rfl rfl rfl rfl ?_
              refine g_no rfl rfl rfl rfl ?_
              first | refine g_pure (p_pickt rfl rfl) rfl ?_ | refine g_pure (p_pickf rfl rfl) rfl ?_
              refine g_pure (p_not rfl) rfl ?_
              refine g_nil ?_
              refine g_qt ?_
              refine g_iff rfl ?_
              refine g_skip ?_
              refine g_qb ?_
              refine g_qt ?_
              refine g_region ?_
              refine g_pure (p_move rfl) rfl ?_
              first | refine g_pure (p_addi rfl rfl (by omega)) rfl ?_ | refine g_pure (p_add rfl rfl) rfl ?_
              refine g_pure (p_assign rfl) rfl ?_
              refine g_nil ?_
              refine g_qn ?_
              exact g_next (k + 1) (by (repeat (first | exact trivial | refine ⟨by rfl, ?_⟩)); done) (by repeat' (first | exact Cover.nil | exact Take.here | apply Cover.cons | apply Take.there)) ⟨hkl, t1 (c1 (by omega))⟩ (by omega)
            · refine g_yes rfl rfl ?_
              refine g_pure (p_move rfl) rfl ?_
              refine g_yes rfl rfl ?_
              refine g_pure (p_eql rfl rfl) rfl ?_
              first | refine g_pure (p_pickt rfl rfl) rfl ?_ | refine g_pure (p_pickf rfl rfl) rfl ?_
              refine g_pure (p_not rfl) rfl ?_
              refine g_nil ?_
              refine g_qt ?_
              refine g_ifndL rfl (fun h23 => ?_) (fun h23 => ?_)
              · refine g_seq ?_
                refine g_region ?_
                refine g_pure (p_assign rfl) rfl ?_
                refine g_nil ?_
                refine g_qt ?_
                refine g_ret ?_
                refine g_qb_ret ?_
                refine g_qt_ret ?_
                refine g_qn_ret ?_
                refine g_qb_ret ?_
                refine g_qt_ret ?_
                exact g_post (rs := [.tmp 2]) rfl (.tmp rfl .nil) ⟨by rw [t2 (c2 (by omega))]; rfl, rfl⟩ (by repeat' (first | exact Cover.nil | exact Take.here | apply Cover.cons | apply Take.there))
              · refine g_skip ?_
                refine g_qb ?_
                refine g_qt ?_
                refine g_region ?_
                refine g_pure (p_move rfl) rfl ?_
                first | refine g_pure (p_addi rfl rfl (by omega)) rfl ?_ | refine g_pure (p_add rfl rfl) rfl ?_
                refine g_pure (p_assign rfl) rfl ?_
                refine g_nil ?_
                refine g_qn ?_
                exact g_next (k + 1) (by (repeat (first | exact trivial | refine ⟨by rfl, ?_⟩)); done) (by repeat' (first | exact Cover.nil | exact Take.here | apply Cover.cons | apply Take.there)) ⟨hkl, t1 (c1 (by omega))⟩ (by omega)
          · refine g_no rfl rfl rfl rfl ?_
            refine g_no rfl rfl rfl rfl ?_
            refine g_yes rfl rfl ?_
            first | refine g_pure (p_pickt rfl rfl) rfl ?_ | refine g_pure (p_pickf rfl rfl) rfl ?_
            first | refine g_pure (p_pickt rfl rfl) rfl ?_ | refine g_pure (p_pickf rfl rfl) rfl ?_
            refine g_pure (p_move rfl) rfl ?_
            refine g_yes rfl rfl ?_
            refine g_pure (p_move rfl) rfl ?_
            refine g_yes rfl rfl ?_
            refine g_pure (p_eql rfl rfl) rfl ?_
            first | refine g_pure (p_pickt rfl rfl) rfl ?_ | refine g_pure (p_pickf rfl rfl) rfl ?_
            refine g_pure (p_not rfl) rfl ?_
            refine g_nil ?_
            refine g_qt ?_
            refine g_ifndL rfl (fun h25 => ?_) (fun h25 => ?_)
            · refine g_seq ?_
              refine g_region ?_
              refine g_pure (p_assign rfl) rfl ?_
              refine g_nil ?_
              refine g_qt ?_
              refine g_ret ?_
              refine g_qb_ret ?_
              refine g_qt_ret ?_
              refine g_qn_ret ?_
              refine g_qb_ret ?_
              refine g_qt_ret ?_
              exact g_post (rs := [.tmp 2]) rfl (.tmp rfl .nil) ⟨by rw [t2 (c2 (by omega))]; rfl, rfl⟩ (by repeat' (first | exact Cover.nil | exact Take.here | apply Cover.cons | apply Take.there))
            · refine g_skip ?_
              refine g_qb ?_
              refine g_qt ?_
              refine g_region ?_
              refine g_pure (p_move rfl) rfl ?_
              first | refine g_pure (p_addi rfl rfl (by omega)) rfl ?_ | refine g_pure (p_add rfl rfl) rfl ?_
              refine g_pure (p_assign rfl) rfl ?_
              refine g_nil ?_
              refine g_qn ?_
              exact g_next (k + 1) (by (repeat (first | exact trivial | refine ⟨by rfl, ?_⟩)); done) (by repeat' (first | exact Cover.nil | exact Take.here | apply Cover.cons | apply Take.there)) ⟨hkl, t1 (c1 (by omega))⟩ (by omega)
    · refine g_no rfl rfl rfl rfl ?_
      refine g_no rfl rfl rfl rfl ?_
      first | refine g_pure (p_pickt rfl rfl) rfl ?_ | refine g_pure (p_pickf rfl rfl) rfl ?_
      refine g_pure (p_move rfl) rfl ?_
      refine g_yes rfl rfl ?_
      refine g_pure (p_move rfl) rfl ?_
      refine g_yes rfl rfl ?_
      refine g_pure (p_geq rfl rfl) rfl ?_
      refine g_yes rfl rfl ?_
      refine g_pure (p_move rfl) rfl ?_
      refine g_splitd rfl rfl (fun h27 => ?_) (fun h27 => ?_)
      · refine g_yes rfl rfl ?_
        refine g_pure (p_move rfl) rfl ?_
        refine g_yes rfl rfl ?_
        refine g_pure (p_leq rfl rfl) rfl ?_
        refine g_yes rfl rfl ?_
        first | refine g_pure (p_pickt rfl rfl) rfl ?_ | refine g_pure (p_pickf rfl rfl) rfl ?_
        first | refine g_pure (p_pickt rfl rfl) rfl ?_ | refine g_pure (p_pickf rfl rfl) rfl ?_
        refine g_pure (p_move rfl) rfl ?_
        refine g_splitd rfl rfl (fun h28 => ?_) (fun h28 => ?_)
        · refine g_no rfl rfl rfl rfl ?_
          refine g_no rfl rfl rfl rfl ?_
          refine g_no rfl rfl rfl rfl ?_
          refine g_nou rfl rfl rfl ?_
          refine g_nou rfl rfl rfl ?_
          refine g_no rfl rfl rfl rfl ?_
          first | refine g_pure (p_pickt rfl rfl) rfl ?_ | refine g_pure (p_pickf rfl rfl) rfl ?_
          refine g_pure (p_move rfl) rfl ?_
          refine g_no rfl rfl rfl rfl ?_
          refine g_no rfl rfl rfl rfl ?_
          first | refine g_pure (p_pickt rfl rfl) rfl ?_ | refine g_pure (p_pickf rfl rfl) rfl ?_
          refine g_pure (p_not rfl) rfl ?_
          refine g_nil ?_
          refine g_qt ?_
          refine g_iff rfl ?_
          refine g_skip ?_
          refine g_qb ?_
          refine g_qt ?_
          refine g_region ?_
          refine g_pure (p_move rfl) rfl ?_
          first | refine g_pure (p_addi rfl rfl (by omega)) rfl ?_ | refine g_pure (p_add rfl rfl) rfl ?_
          refine g_pure (p_assign rfl) rfl ?_
          refine g_nil ?_
          refine g_qn ?_
          exact g_next (k + 1) (by (repeat (first | exact trivial | refine ⟨by rfl, ?_⟩)); done) (by repeat' (first | exact Cover.nil | exact Take.here | apply Cover.cons | apply Take.there)) ⟨hkl, t1 (c1 (by omega))⟩ (by omega)
        · refine g_yes rfl rfl ?_
          refine g_pure (p_move rfl) rfl ?_
          refine g_yes rfl rfl ?_
          refine g_pure (p_geq rfl rfl) rfl ?_
          refine g_yes rfl rfl ?_
          refine g_pure (p_move rfl) rfl ?_
          refine g_splitd rfl rfl (fun h32 => ?_) (fun h32 => ?_)
          · refine g_yes rfl rfl ?_
            refine g_pure (p_move rfl) rfl ?_
            refine g_yes rfl rfl ?_
            refine g_pure (p_leq rfl rfl) rfl ?_
            refine g_yes rfl rfl ?_
            first | refine g_pure (p_pickt rfl rfl) rfl ?_ | refine g_pure (p_pickf rfl rfl) rfl ?_
            first | refine g_pure (p_pickt rfl rfl) rfl ?_ | refine g_pure (p_pickf rfl rfl) rfl ?_
            refine g_pure (p_move rfl) rfl ?_
            refine g_splitd rfl rfl (fun h33 => ?_) (fun h33 => ?_)
            · refine g_no rfl rfl rfl rfl ?_
              refine g_no rfl rfl rfl rfl ?_
              first | refine g_pure (p_pickt rfl rfl) rfl ?_ | refine g_pure (p_pickf rfl rfl) rfl ?_
              refine g_pure (p_not rfl) rfl ?_
              refine g_nil ?_
              refine g_qt ?_
              refine g_iff rfl ?_
              refine g_skip ?_
              refine g_qb ?_
              refine g_qt ?_
              refine g_region ?_
              refine g_pure (p_move rfl) rfl ?_
              first | refine g_pure (p_addi rfl rfl (by omega)) rfl ?_ | refine g_pure (p_add rfl rfl) rfl ?_
              refine g_pure (p_assign rfl) rfl ?_
              refine g_nil ?_
              refine g_qn ?_
              exact g_next (k + 1) (by (repeat (first | exact trivial | refine ⟨by rfl, ?_⟩)); done) (by repeat' (first | exact Cover.nil | exact Take.here | apply Cover.cons | apply Take.there)) ⟨hkl, t1 (c1 (by omega))⟩ (by omega)
            · refine g_yes rfl rfl ?_
              refine g_pure (p_move rfl) rfl ?_
              refine g_yes rfl rfl ?_
              refine g_pure (p_eql rfl rfl) rfl ?_
              first | refine g_pure (p_pickt rfl rfl) rfl ?_ | refine g_pure (p_pickf rfl rfl) rfl ?_
              refine g_pure (p_not rfl) rfl ?_
              refine g_nil ?_
              refine g_qt ?_
              refine g_ifndL rfl (fun h35 => ?_) (fun h35 => ?_)
              · refine g_seq ?_
                refine g_region ?_
                refine g_pure (p_assign rfl) rfl ?_
                refine g_nil ?_
                refine g_qt ?_
                refine g_ret ?_
                refine g_qb_ret ?_
                refine g_qt_ret ?_
                refine g_qn_ret ?_
                refine g_qb_ret ?_
                refine g_qt_ret ?_
                exact g_post (rs := [.tmp 2]) rfl (.tmp rfl .nil) ⟨by rw [t2 (c2 (by omega))]; rfl, rfl⟩ (by repeat' (first | exact Cover.nil | exact Take.here | apply Cover.cons | apply Take.there))
              · refine g_skip ?_
                refine g_qb ?_
                refine g_qt ?_
                refine g_region ?_
                refine g_pure (p_move rfl) rfl ?_
                first | refine g_pure (p_addi rfl rfl (by omega)) rfl ?_ | refine g_pure (p_add rfl rfl) rfl ?_
                refine g_pure (p_assign rfl) rfl ?_
                refine g_nil ?_
                refine g_qn ?_
                exact g_next (k + 1) (by (repeat (first | exact trivial | refine ⟨by rfl, ?_⟩)); done) (by repeat' (first | exact Cover.nil | exact Take.here | apply Cover.cons | apply Take.there)) ⟨hkl, t1 (c1 (by omega))⟩ (by omega)
          · refine g_no rfl rfl rfl rfl ?_
            refine g_no rfl rfl rfl rfl ?_
            refine g_yes rfl rfl ?_
            first | refine g_pure (p_pickt rfl rfl) rfl ?_ | refine g_pure (p_pickf rfl rfl) rfl ?_
            first | refine g_pure (p_pickt rfl rfl) rfl ?_ | refine g_pure (p_pickf rfl rfl) rfl ?_
            refine g_pure (p_move rfl) rfl ?_
            refine g_yes rfl rfl ?_
            refine g_pure (p_move rfl) rfl ?_
            refine g_yes rfl rfl ?_
            refine g_pure (p_eql rfl rfl) rfl ?_
            first | refine g_pure (p_pickt rfl rfl) rfl ?_ | refine g_pure (p_pickf rfl rfl) rfl ?_
            refine g_pure (p_not rfl) rfl ?_
            refine g_nil ?_
            refine g_qt ?_
            refine g_ifndL rfl (fun h37 => ?_) (fun h37 => ?_)
            · refine g_seq ?_
              refine g_region ?_
              refine g_pure (p_assign rfl) rfl ?_
              refine g_nil ?_
              refine g_qt ?_
              refine g_ret ?_
              refine g_qb_ret ?_
              refine g_qt_ret ?_
              refine g_qn_ret ?_
              refine g_qb_ret ?_
              refine g_qt_ret ?_
              exact g_post (rs := [.tmp 2]) rfl (.tmp rfl .nil) ⟨by rw [t2 (c2 (by omega))]; rfl, rfl⟩ (by repeat' (first | exact Cover.nil | exact Take.here | apply Cover.cons | apply Take.there))
            · refine g_skip ?_
              refine g_qb ?_
              refine g_qt ?_
              refine g_region ?_
              refine g_pure (p_move rfl) rfl ?_
              first | refine g_pure (p_addi rfl rfl (by omega)) rfl ?_ | refine g_pure (p_add rfl rfl) rfl ?_
              refine g_pure (p_assign rfl) rfl ?_
              refine g_nil ?_
              refine g_qn ?_
              exact g_next (k + 1) (by (repeat (first | exact trivial | refine ⟨by rfl, ?_⟩)); done) (by repeat' (first | exact Cover.nil | exact Take.here | apply Cover.cons | apply Take.there)) ⟨hkl, t1 (c1 (by omega))⟩ (by omega)
      · refine g_no rfl rfl rfl rfl ?_
        refine g_no rfl rfl rfl rfl ?_
        refine g_yes rfl rfl ?_
        first | refine g_pure (p_pickt rfl rfl) rfl ?_ | refine g_pure (p_pickf rfl rfl) rfl ?_
        first | refine g_pure (p_pickt rfl rfl) rfl ?_ | refine g_pure (p_pickf rfl rfl) rfl ?_
        refine g_pure (p_move rfl) rfl ?_
        refine g_yes rfl rfl ?_
        refine g_pure (p_move rfl) rfl ?_
        refine g_yes rfl rfl ?_
        refine g_pure (p_geq rfl rfl) rfl ?_
        refine g_yes rfl rfl ?_
        refine g_pure (p_move rfl) rfl ?_
        refine g_splitd rfl rfl (fun h39 => ?_) (fun h39 => ?_)
        · refine g_yes rfl rfl ?_
          refine g_pure (p_move rfl) rfl ?_
          refine g_yes rfl rfl ?_
          refine g_pure (p_leq rfl rfl) rfl ?_
          refine g_yes rfl rfl ?_
          first | refine g_pure (p_pickt rfl rfl) rfl ?_ | refine g_pure (p_pickf rfl rfl) rfl ?_
          first | refine g_pure (p_pickt rfl rfl) rfl ?_ | refine g_pure (p_pickf rfl rfl) rfl ?_
          refine g_pure (p_move rfl) rfl ?_
          refine g_splitd rfl rfl (fun h40 => ?_) (fun h40 => ?_)
          · refine g_no rfl rfl rfl rfl ?_
            refine g_no rfl rfl rfl rfl ?_
            first | refine g_pure (p_pickt rfl rfl) rfl ?_ | refine g_pure (p_pickf rfl rfl) rfl ?_
            refine g_pure (p_not rfl) rfl ?_
            refine g_nil ?_
            refine g_qt ?_
            refine g_iff rfl ?_
            refine g_skip ?_
            refine g_qb ?_
            refine g_qt ?_
            refine g_region ?_
            refine g_pure (p_move rfl) rfl ?_
            first | refine g_pure (p_addi rfl rfl (by omega)) rfl ?_ | refine g_pure (p_add rfl rfl) rfl ?_
            refine g_pure (p_assign rfl) rfl ?_
            refine g_nil ?_
            refine g_qn ?_
            exact g_next (k + 1) (by (repeat (first | exact trivial | refine ⟨by rfl, ?_⟩)); done) (by repeat' (first | exact Cover.nil | exact Take.here | apply Cover.cons | apply Take.there)) ⟨hkl, t1 (c1 (by omega))⟩ (by omega)
          · refine g_yes rfl rfl ?_
            refine g_pure (p_move rfl) rfl ?_
            refine g_yes rfl rfl ?_
            refine g_pure (p_eql rfl rfl) rfl ?_
            first | refine g_pure (p_pickt rfl rfl) rfl ?_ | refine g_pure (p_pickf rfl rfl) rfl ?_
            refine g_pure (p_not rfl) rfl ?_
            refine g_nil ?_
            refine g_qt ?_
            refine g_ifndL rfl (fun h42 => ?_) (fun h42 => ?_)
            · refine g_seq ?_
              refine g_region ?_
              refine g_pure (p_assign rfl) rfl ?_
              refine g_nil ?_
              refine g_qt ?_
              refine g_ret ?_
              refine g_qb_ret ?_
              refine g_qt_ret ?_
              refine g_qn_ret ?_
              refine g_qb_ret ?_
              refine g_qt_ret ?_
              exact g_post (rs := [.tmp 2]) rfl (.tmp rfl .nil) ⟨by rw [t2 (c2 (by omega))]; rfl, rfl⟩ (by repeat' (first | exact Cover.nil | exact Take.here | apply Cover.cons | apply Take.there))
            · refine g_skip ?_
              refine g_qb ?_
              refine g_qt ?_
              refine g_region ?_
              refine g_pure (p_move rfl) rfl ?_
              first | refine g_pure (p_addi rfl rfl (by omega)) rfl ?_ | refine g_pure (p_add rfl rfl) rfl ?_
              refine g_pure (p_assign rfl) rfl ?_
              refine g_nil ?_
              refine g_qn ?_
              exact g_next (k + 1) (by (repeat (first | exact trivial | refine ⟨by rfl, ?_⟩)); done) (by repeat' (first | exact Cover.nil | exact Take.here | apply Cover.cons | apply Take.there)) ⟨hkl, t1 (c1 (by omega))⟩ (by omega)
        · refine g_no rfl rfl rfl rfl ?_
          refine g_no rfl rfl rfl rfl ?_
          refine g_yes rfl rfl ?_
          first | refine g_pure (p_pickt rfl rfl) rfl ?_ | refine g_pure (p_pickf rfl rfl) rfl ?_
          first | refine g_pure (p_pickt rfl rfl) rfl ?_ | refine g_pure (p_pickf rfl rfl) rfl ?_
          refine g_pure (p_move rfl) rfl ?_
          refine g_yes rfl rfl ?_
          refine g_pure (p_move rfl) rfl ?_
          refine g_yes rfl rfl ?_
          refine g_pure (p_eql rfl rfl) rfl ?_
          first | refine g_pure (p_pickt rfl rfl) rfl ?_ | refine g_pure (p_pickf rfl rfl) rfl ?_
          refine g_pure (p_not rfl) rfl ?_
          refine g_nil ?_
          refine g_qt ?_
          refine g_ifndL rfl (fun h44 => ?_) (fun h44 => ?_)
          · refine g_seq ?_
            refine g_region ?_
            refine g_pure (p_assign rfl) rfl ?_
            refine g_nil ?_
            refine g_qt ?_
            refine g_ret ?_
            refine g_qb_ret ?_
            refine g_qt_ret ?_
            refine g_qn_ret ?_
            refine g_qb_ret ?_
            refine g_qt_ret ?_
            exact g_post (rs := [.tmp 2]) rfl (.tmp rfl .nil) ⟨by rw [t2 (c2 (by omega))]; rfl, rfl⟩ (by repeat' (first | exact Cover.nil | exact Take.here | apply Cover.cons | apply Take.there))
          · refine g_skip ?_
            refine g_qb ?_
            refine g_qt ?_
            refine g_region ?_
            refine g_pure (p_move rfl) rfl ?_
            first | refine g_pure (p_addi rfl rfl (by omega)) rfl ?_ | refine g_pure (p_add rfl rfl) rfl ?_
            refine g_pure (p_assign rfl) rfl ?_
            refine g_nil ?_
            refine g_qn ?_
            exact g_next (k + 1) (by (repeat (first | exact trivial | refine ⟨by rfl, ?_⟩)); done) (by repeat' (first | exact Cover.nil | exact Take.here | apply Cover.cons | apply Take.there)) ⟨hkl, t1 (c1 (by omega))⟩ (by omega)
  · rw [List.take_of_length_le (by omega)] at hk2
    refine g_exit ?_
    refine g_qt_exit ?_
    refine g_qn_exit ?_
    refine g_qb_exit ?_
    refine g_qt ?_
    refine g_seq ?_
    refine g_region ?_
    refine g_pure (p_assign rfl) rfl ?_
    refine g_nil ?_
    refine g_qt ?_
    refine g_ret ?_
    exact g_post (rs := [.tmp 2]) rfl (.tmp rfl .nil) ⟨by rw [hk2]; rfl, rfl⟩ (by repeat' (first | exact Cover.nil | exact Take.here | apply Cover.cons | apply Take.there))

theorem rtyped_ok {ρ : Nat → Obj → Prop} (ea la : Option Addr) (ec lc n : Nat) (hn : n ≤ 17592186044416) (l : List Int) (h : RSl ρ 1 la l.length (l.map encI)) (hl : l.length ≤ 17592186044416) :
    Con Tryz.prog ρ 65 #[.slice ea n ec, .slice la l.length lc] [] (fun v H => v = .bool (l.all (typedB n)) ∧ H = []) := by
  obtain ⟨_, b1, o1, c1, T1, f1, hr1⟩ := h
  refine con_intro Tryz.func65 Tryz.call65 rfl Tryz.ntmps65 rfl (L := [(0, _), (1, _)]) rfl fun w hh => ?_
  refine g_seq ?_
  refine g_region ?_
  refine g_pure (p_assign rfl) rfl ?_
  refine g_nil ?_
  refine g_qt ?_
  refine g_seq ?_
  refine g_seq ?_
  refine g_region ?_
  refine g_pure (p_assign rfl) rfl ?_
  refine g_nil ?_
  refine g_qt ?_
  refine g_block ?_
  refine g_loop (fun k : Nat => [(0, .slice ea n ec), (1, .slice la l.length lc), (5, .int .i64 k)]) (fun _ => []) (fun k => k ≤ l.length ∧ (l.take k).all (typedB n) = true) (fun k => l.length - k) 0 ⟨Nat.zero_le _, rfl⟩ (by (repeat (first | exact trivial | refine ⟨by rfl, ?_⟩)); done) (by repeat' (first | exact Cover.nil | exact Take.here | apply Cover.cons | apply Take.there)) ?_
  rintro k ⟨hk1, hk2⟩
  refine g_seq ?_
  refine g_seq ?_
  refine g_region ?_
  refine g_pure (p_move rfl) rfl ?_
  refine g_pure (p_move rfl) rfl ?_
  refine g_pure (p_len (by rfl) rfl) rfl ?_
  refine g_pure (p_lss rfl rfl) rfl ?_
  refine g_nil ?_
  refine g_qt ?_
  refine g_ifd rfl (fun q => ?_) (fun q => ?_)
  · have hkl : k < l.length := by omega
    obtain ⟨t1, t2⟩ := take_int hkl hk2
    have hx : c1[o1 + (k : Int).toNat * 1]? = some (.int .i64 l[k]) := by
      rw [Int.toNat_natCast, Nat.mul_one]
      exact (hr1 (by omega)).2.2 k _ (by simp [List.getElem?_eq_getElem hkl, encI])
    generalize l[k] = x at t1 t2 hx
    have b1 : 1 ≤ x ∧ x < 3 + (n : Int) → typedB n x = true := fun h => decide_eq_true h
    have b2 : ¬ (1 ≤ x ∧ x < 3 + (n : Int)) → typedB n x = false := fun h => decide_eq_false h
    refine g_skip ?_
    refine g_qt ?_
    refine g_seq ?_
    refine g_block ?_
    refine g_seq ?_
    refine g_region ?_
    refine g_pure (p_move rfl) rfl ?_
    refine g_pure (p_move rfl) rfl ?_
    refine g_pure (p_indexAddr rfl rfl (by omega) (fun _ => (hr1 (by omega)).1)) rfl ?_
    refine g_pure (p_load (by rfl) rfl (Has.ro (hr1 (by omega)).2.1) hx) rfl ?_
    refine g_pure (p_lss rfl rfl) rfl ?_
    refine g_pure (p_move rfl) rfl ?_
    refine g_splitd rfl rfl (fun h1 => ?_) (fun h1 => ?_)
    · refine g_no rfl rfl rfl rfl ?_
      refine g_no rfl rfl rfl rfl ?_
      refine g_no rfl rfl rfl rfl ?_
      refine g_no rfl rfl rfl rfl ?_
      refine g_no rfl rfl rfl rfl ?_
      refine g_no rfl rfl rfl rfl ?_
      refine g_no rfl rfl rfl rfl ?_
      refine g_no rfl rfl rfl rfl ?_
      first | refine g_pure (p_pickt rfl rfl) rfl ?_ | refine g_pure (p_pickf rfl rfl) rfl ?_
      refine g_nil ?_
      refine g_qt ?_
      refine g_ift rfl ?_
      refine g_seq ?_
      refine g_region ?_
      refine g_pure (p_assign rfl) rfl ?_
      refine g_nil ?_
      refine g_qt ?_
      refine g_ret ?_
      refine g_qb_ret ?_
      refine g_qt_ret ?_
      refine g_qn_ret ?_
      refine g_qb_ret ?_
      refine g_qt_ret ?_
      exact g_post (rs := [.tmp 4]) rfl (.tmp rfl .nil) ⟨by rw [t2 (b2 (by omega))]; rfl, rfl⟩ (by repeat' (first | exact Cover.nil | exact Take.here | apply Cover.cons | apply Take.there))
    · refine g_yes rfl rfl ?_
      refine g_pure (p_move rfl) rfl ?_
      refine g_yes rfl rfl ?_
      refine g_pure (p_move rfl) rfl ?_
      refine g_yes rfl rfl ?_
      refine g_pure (p_indexAddr rfl rfl (by omega) (fun _ => (hr1 (by omega)).1)) rfl ?_
      refine g_yes rfl rfl ?_
      refine g_pure (p_load (by rfl) rfl (Has.ro (hr1 (by omega)).2.1) hx) rfl ?_
      refine g_yes rfl rfl ?_
      refine g_pure (p_move rfl) rfl ?_
      refine g_yes rfl rfl ?_
      refine g_pure (p_len (by rfl) rfl) rfl ?_
      refine g_yes rfl rfl ?_
      first | refine g_pure (p_addi rfl rfl (by omega)) rfl ?_ | refine g_pure (p_add rfl rfl) rfl ?_
      refine g_yes rfl rfl ?_
      refine g_pure (p_geq rfl rfl) rfl ?_
      first | refine g_pure (p_pickt rfl rfl) rfl ?_ | refine g_pure (p_pickf rfl rfl) rfl ?_
      refine g_nil ?_
      refine g_qt ?_
      refine g_ifdL rfl (fun h3 => ?_) (fun h3 => ?_)
      · refine g_seq ?_
        refine g_region ?_
        refine g_pure (p_assign rfl) rfl ?_
        refine g_nil ?_
        refine g_qt ?_
        refine g_ret ?_
        refine g_qb_ret ?_
        refine g_qt_ret ?_
        refine g_qn_ret ?_
        refine g_qb_ret ?_
        refine g_qt_ret ?_
        exact g_post (rs := [.tmp 4]) rfl (.tmp rfl .nil) ⟨by rw [t2 (b2 (by omega))]; rfl, rfl⟩ (by repeat' (first | exact Cover.nil | exact Take.here | apply Cover.cons | apply Take.there))
      · refine g_skip ?_
        refine g_qb ?_
        refine g_qt ?_
        refine g_region ?_
        refine g_pure (p_move rfl) rfl ?_
        first | refine g_pure (p_addi rfl rfl (by omega)) rfl ?_ | refine g_pure (p_add rfl rfl) rfl ?_
        refine g_pure (p_assign rfl) rfl ?_
        refine g_nil ?_
        refine g_qn ?_
        exact g_next (k + 1) (by (repeat (first | exact trivial | refine ⟨by rfl, ?_⟩)); done) (by repeat' (first | exact Cover.nil | exact Take.here | apply Cover.cons | apply Take.there)) ⟨hkl, t1 (b1 (by omega))⟩ (by omega)
  · rw [List.take_of_length_le (by omega)] at hk2
    refine g_exit ?_
    refine g_qt_exit ?_
    refine g_qn_exit ?_
    refine g_qb_exit ?_
    refine g_qt ?_
    refine g_seq ?_
    refine g_region ?_
    refine g_pure (p_assign rfl) rfl ?_
    refine g_nil ?_
    refine g_qt ?_
    refine g_ret ?_
    exact g_post (rs := [.tmp 4]) rfl (.tmp rfl .nil) ⟨by rw [hk2]; rfl, rfl⟩ (by repeat' (first | exact Cover.nil | exact Take.here | apply Cover.cons | apply Take.there))

theorem rwithin_ok {ρ : Nat → Obj → Prop} (x n m : Int) (hm : I64 m) : Con Tryz.prog ρ 86 #[.int .i64 x, .int .i64 n, .int .i64 m] [] (fun v H => v = .bool (decide (withinP x n m)) ∧ H = []) := by
  obtain ⟨hm1, hm2⟩ := hm
  have hw : withinP x n m ↔ 0 ≤ x ∧ x ≤ m ∧ n ≤ m - x := Iff.rfl
  refine con_intro Tryz.func86 Tryz.call86 rfl Tryz.ntmps86 rfl (L := [(0, _), (1, _), (2, _)]) rfl fun w hh => ?_
  refine g_seq ?_
  refine g_region ?_
  refine g_pure (p_assign rfl) rfl ?_
  refine g_nil ?_
  refine g_qt ?_
  refine g_seq ?_
  refine g_region ?_
  refine g_pure (p_move rfl) rfl ?_
  refine g_pure (p_geq rfl rfl) rfl ?_
  refine g_pure (p_move rfl) rfl ?_
  refine g_splitd rfl rfl (fun h1 => ?_) (fun h1 => ?_)
  · refine g_yes rfl rfl ?_
    refine g_pure (p_move rfl) rfl ?_
    refine g_yes rfl rfl ?_
    refine g_pure (p_move rfl) rfl ?_
    refine g_yes rfl rfl ?_
    refine g_pure (p_leq rfl rfl) rfl ?_
    first | refine g_pure (p_pickt rfl rfl) rfl ?_ | refine g_pure (p_pickf rfl rfl) rfl ?_
    refine g_pure (p_move rfl) rfl ?_
    refine g_splitd rfl rfl (fun h2 => ?_) (fun h2 => ?_)
    · refine g_yes rfl rfl ?_
      refine g_pure (p_move rfl) rfl ?_
      refine g_yes rfl rfl ?_
      refine g_pure (p_move rfl) rfl ?_
      refine g_yes rfl rfl ?_
      refine g_pure (p_move rfl) rfl ?_
      refine g_yes rfl rfl ?_
      first | refine g_pure (p_subi rfl rfl (by omega)) rfl ?_ | refine g_pure (p_sub rfl rfl) rfl ?_
      refine g_yes rfl rfl ?_
      refine g_pure (p_leq rfl rfl) rfl ?_
      first | refine g_pure (p_pickt rfl rfl) rfl ?_ | refine g_pure (p_pickf rfl rfl) rfl ?_
      refine g_pure (p_assign rfl) rfl ?_
      refine g_nil ?_
      refine g_qt ?_
      refine g_ret ?_
      first | exact g_post (rs := [.tmp 6]) rfl (.tmp rfl .nil) ⟨show Value.bool false = _ by (rw [decide_eq_false (fun h => by have := hw.1 h; omega)]), rfl⟩ (by repeat' (first | exact Cover.nil | exact Take.here | apply Cover.cons | apply Take.there)) | exact g_post (rs := [.tmp 6]) rfl (.tmp rfl .nil) ⟨show Value.bool (decide (n ≤ m - x)) = _ by (congr 1; exact decide_eq_decide.2 (by rw [hw]; omega)), rfl⟩ (by repeat' (first | exact Cover.nil | exact Take.here | apply Cover.cons | apply Take.there))
    · refine g_no rfl rfl rfl rfl ?_
      refine g_no rfl rfl rfl rfl ?_
      refine g_no rfl rfl rfl rfl ?_
      refine g_no rfl rfl rfl rfl ?_
      refine g_no rfl rfl rfl rfl ?_
      first | refine g_pure (p_pickt rfl rfl) rfl ?_ | refine g_pure (p_pickf rfl rfl) rfl ?_
      refine g_pure (p_assign rfl) rfl ?_
      refine g_nil ?_
      refine g_qt ?_
      refine g_ret ?_
      first | exact g_post (rs := [.tmp 6]) rfl (.tmp rfl .nil) ⟨show Value.bool false = _ by (rw [decide_eq_false (fun h => by have := hw.1 h; omega)]), rfl⟩ (by repeat' (first | exact Cover.nil | exact Take.here | apply Cover.cons | apply Take.there)) | exact g_post (rs := [.tmp 6]) rfl (.tmp rfl .nil) ⟨show Value.bool (decide (n ≤ m - x)) = _ by (congr 1; exact decide_eq_decide.2 (by rw [hw]; omega)), rfl⟩ (by repeat' (first | exact Cover.nil | exact Take.here | apply Cover.cons | apply Take.there))
  · refine g_no rfl rfl rfl rfl ?_
    refine g_no rfl rfl rfl rfl ?_
    refine g_no rfl rfl rfl rfl ?_
    first | refine g_pure (p_pickt rfl rfl) rfl ?_ | refine g_pure (p_pickf rfl rfl) rfl ?_
    refine g_pure (p_move rfl) rfl ?_
    refine g_no rfl rfl rfl rfl ?_
    refine g_no rfl rfl rfl rfl ?_
    refine g_no rfl rfl rfl rfl ?_
    refine g_no rfl rfl rfl rfl ?_
    refine g_no rfl rfl rfl rfl ?_
    first | refine g_pure (p_pickt rfl rfl) rfl ?_ | refine g_pure (p_pickf rfl rfl) rfl ?_
    refine g_pure (p_assign rfl) rfl ?_
    refine g_nil ?_
    refine g_qt ?_
    refine g_ret ?_
    first | exact g_post (rs := [.tmp 6]) rfl (.tmp rfl .nil) ⟨show Value.bool false = _ by (rw [decide_eq_false (fun h => by have := hw.1 h; omega)]), rfl⟩ (by repeat' (first | exact Cover.nil | exact Take.here | apply Cover.cons | apply Take.there)) | exact g_post (rs := [.tmp 6]) rfl (.tmp rfl .nil) ⟨show Value.bool (decide (n ≤ m - x)) = _ by (congr 1; exact decide_eq_decide.2 (by rw [hw]; omega)), rfl⟩ (by repeat' (first | exact Cover.nil | exact Take.here | apply Cover.cons | apply Take.there))

theorem rhas_ok {ρ : Nat → Obj → Prop} (s : List UInt8) (c : UInt8) (hs : s.length ≤ 100) : Con Tryz.prog ρ 85 #[.string (strB s), .int .u8 c.toNat] [] (fun v H => v = .bool (s.contains c) ∧ H = []) := by
  have hsz : (strB s).size = s.length := rfl
  refine con_intro Tryz.func85 Tryz.call85 rfl Tryz.ntmps85 rfl (L := [(0, _), (1, _)]) rfl fun w hh => ?_
  refine g_seq ?_
  refine g_region ?_
  refine g_pure (p_assign rfl) rfl ?_
  refine g_nil ?_
  refine g_qt ?_
  refine g_seq ?_
  refine g_seq ?_
  refine g_region ?_
  refine g_pure (p_assign rfl) rfl ?_
  refine g_nil ?_
  refine g_qt ?_
  refine g_block ?_
  refine g_loop (fun k : Nat => [(0, .string (strB s)), (1, .int .u8 c.toNat), (5, .int .i64 k)]) (fun _ => []) (fun k => k ≤ s.length ∧ c ∉ s.take k) (fun k => s.length - k) 0 ⟨Nat.zero_le _, by simp⟩ (by (repeat (first | exact trivial | refine ⟨by rfl, ?_⟩)); done) (by repeat' (first | exact Cover.nil | exact Take.here | apply Cover.cons | apply Take.there)) ?_
  rintro k ⟨hk1, hk2⟩
  refine g_seq ?_
  refine g_seq ?_
  refine g_region ?_
  refine g_pure (p_move rfl) rfl ?_
  refine g_pure (p_move rfl) rfl ?_
  refine g_pure (p_lens (by rfl) rfl) rfl ?_
  refine g_pure (p_lss rfl rfl) rfl ?_
  refine g_nil ?_
  refine g_qt ?_
  refine g_ifd rfl (fun q => ?_) (fun q => ?_)
  · have hkl : k < s.length := by omega
    obtain ⟨t1, t2⟩ := contains_take hkl hk2
    refine g_skip ?_
    refine g_qt ?_
    refine g_seq ?_
    refine g_block ?_
    refine g_seq ?_
    refine g_region ?_
    refine g_pure (p_move rfl) rfl ?_
    refine g_pure (p_move rfl) rfl ?_
    refine g_pure (p_indexs (by rfl) rfl rfl (by omega) (strB_at s hkl)) rfl ?_
    refine g_pure (p_move rfl) rfl ?_
    refine g_pure (p_eql rfl rfl) rfl ?_
    refine g_nil ?_
    refine g_qt ?_
    refine g_ifd rfl (fun h => ?_) (fun h => ?_)
    · have he : s[k] = c := UInt8.toNat_inj.1 (by omega)
      refine g_seq ?_
      refine g_region ?_
      refine g_pure (p_assign rfl) rfl ?_
      refine g_nil ?_
      refine g_qt ?_
      refine g_ret ?_
      refine g_qb_ret ?_
      refine g_qt_ret ?_
      refine g_qn_ret ?_
      refine g_qb_ret ?_
      refine g_qt_ret ?_
      exact g_post (rs := [.tmp 4]) rfl (.tmp rfl .nil) ⟨by rw [t1 he]; rfl, rfl⟩ (by repeat' (first | exact Cover.nil | exact Take.here | apply Cover.cons | apply Take.there))
    · have he : s[k] ≠ c := fun e => h (by rw [e])
      refine g_skip ?_
      refine g_qb ?_
      refine g_qt ?_
      refine g_region ?_
      refine g_pure (p_move rfl) rfl ?_
      first | refine g_pure (p_addi rfl rfl (by omega)) rfl ?_ | refine g_pure (p_add rfl rfl) rfl ?_
      refine g_pure (p_assign rfl) rfl ?_
      refine g_nil ?_
      refine g_qn ?_
      exact g_next (k + 1) (by (repeat (first | exact trivial | refine ⟨by rfl, ?_⟩)); done) (by repeat' (first | exact Cover.nil | exact Take.here | apply Cover.cons | apply Take.there)) ⟨hkl, t2 he⟩ (by omega)
  · rw [List.take_of_length_le (by omega)] at hk2
    refine g_exit ?_
    refine g_qt_exit ?_
    refine g_qn_exit ?_
    refine g_qb_exit ?_
    refine g_qt ?_
    refine g_seq ?_
    refine g_region ?_
    refine g_pure (p_assign rfl) rfl ?_
    refine g_nil ?_
    refine g_qt ?_
    refine g_ret ?_
    exact g_post (rs := [.tmp 4]) rfl (.tmp rfl .nil) ⟨by rw [List.contains_eq_mem, decide_eq_false hk2]; rfl, rfl⟩ (by repeat' (first | exact Cover.nil | exact Take.here | apply Cover.cons | apply Take.there))

theorem fieldsR_at {op : Int} (h : knownP op) : (fieldsRT.map fun l => Value.string (strB l))[0 + op.toNat * 1]? = some (.string (strB (fieldsR op))) := by
  unfold fieldsR
  rw [if_pos h]
  rcases op_cases h with rfl | rfl | rfl | rfl | rfl | rfl | rfl | rfl | rfl | rfl <;> rfl
theorem rfields_ok {ρ : Nat → Obj → Prop} (op : Int) : Con Tryz.prog ρ 46 #[.int .i64 op] [] (fun v H => v = .string (strB (fieldsR op)) ∧ H = []) := by
  have hN : ¬ knownP op → fieldsR op = [] := fun h => by unfold fieldsR; rw [if_neg h]
  have hk : knownP op ↔ 1 ≤ op ∧ op ≤ 10 := Iff.rfl
  refine con_intro Tryz.func46 Tryz.call46 rfl Tryz.ntmps46 rfl (L := [(0, _)]) rfl fun w hh => ?_
  refine g_seq ?_
  refine g_region ?_
  refine g_pure (p_assign rfl) rfl ?_
  refine g_nil ?_
  refine g_qt ?_
  refine g_seq ?_
  refine g_region ?_
  refine g_eff (e_bs (xs := [.const (.string (⟨#[]⟩)), .const (.string (⟨#[65, 66]⟩)), .const (.string (⟨#[65, 66]⟩)), .const (.string (⟨#[65, 66]⟩)), .const (.string (⟨#[65, 66]⟩)), .const (.string (⟨#[65, 66, 67]⟩)), .const (.string (⟨#[65, 66, 67, 68]⟩)), .const (.string (⟨#[66]⟩)), .const (.string (⟨#[65, 66]⟩)), .const (.string (⟨#[65, 66, 67, 68]⟩)), .const (.string (⟨#[65, 66]⟩))]) rfl rfl rfl (by rfl) (by rfl) rfl (by rfl)) rfl (fun _ _ => ?_)
  rintro ⟨b4, rfl, rfl⟩
  refine g_pure (p_assign rfl) rfl ?_
  refine g_nil ?_
  refine g_qt ?_
  refine g_seq ?_
  refine g_seq ?_
  refine g_region ?_
  refine g_pure (p_move rfl) rfl ?_
  refine g_pure (p_lss rfl rfl) rfl ?_
  refine g_pure (p_move rfl) rfl ?_
  refine g_splitd rfl rfl (fun h1 => ?_) (fun h1 => ?_)
  · refine g_no rfl rfl rfl rfl ?_
    refine g_no rfl rfl rfl rfl ?_
    first | refine g_pure (p_pickt rfl rfl) rfl ?_ | refine g_pure (p_pickf rfl rfl) rfl ?_
    refine g_nil ?_
    refine g_qt ?_
    refine g_ift rfl ?_
    refine g_seq ?_
    refine g_region ?_
    refine g_pure (p_assign rfl) rfl ?_
    refine g_nil ?_
    refine g_qt ?_
    refine g_ret ?_
    refine g_qt_ret ?_
    first | exact g_post (rs := [.tmp 2]) rfl (.tmp rfl .nil) ⟨rfl, rfl⟩ (by repeat' (first | exact Cover.nil | exact Take.here | apply Cover.cons | apply Take.there)) | exact g_post (rs := [.tmp 2]) rfl (.tmp rfl .nil) ⟨by rw [hN (fun h => by have := hk.1 h; omega)]; rfl, rfl⟩ (by repeat' (first | exact Cover.nil | exact Take.here | apply Cover.cons | apply Take.there))
  · refine g_yes rfl rfl ?_
    refine g_pure (p_move rfl) rfl ?_
    refine g_yes rfl rfl ?_
    refine g_pure (p_gtr rfl rfl) rfl ?_
    first | refine g_pure (p_pickt rfl rfl) rfl ?_ | refine g_pure (p_pickf rfl rfl) rfl ?_
    refine g_nil ?_
    refine g_qt ?_
    refine g_ifdL rfl (fun h3 => ?_) (fun h3 => ?_)
    · refine g_seq ?_
      refine g_region ?_
      refine g_pure (p_assign rfl) rfl ?_
      refine g_nil ?_
      refine g_qt ?_
      refine g_ret ?_
      refine g_qt_ret ?_
      first | exact g_post (rs := [.tmp 2]) rfl (.tmp rfl .nil) ⟨rfl, rfl⟩ (by repeat' (first | exact Cover.nil | exact Take.here | apply Cover.cons | apply Take.there)) | exact g_post (rs := [.tmp 2]) rfl (.tmp rfl .nil) ⟨by rw [hN (fun h => by have := hk.1 h; omega)]; rfl, rfl⟩ (by repeat' (first | exact Cover.nil | exact Take.here | apply Cover.cons | apply Take.there))
    · refine g_skip ?_
      refine g_qt ?_
      refine g_seq ?_
      refine g_region ?_
      refine g_pure (p_move rfl) rfl ?_
      refine g_pure (p_move rfl) rfl ?_
      refine g_pure (p_indexAddr rfl rfl (by omega) (fun _ => rfl)) rfl ?_
      refine g_pure (p_load (v := .string (strB (fieldsR op))) (by rfl) rfl (Has.own (by repeat' (first | exact Take.here | apply Take.there))) (fieldsR_at (hk.2 ⟨by omega, by omega⟩))) rfl ?_
      refine g_pure (p_assign rfl) rfl ?_
      refine g_nil ?_
      refine g_qt ?_
      refine g_ret ?_
      first | exact g_post (rs := [.tmp 2]) rfl (.tmp rfl .nil) ⟨rfl, rfl⟩ (by repeat' (first | exact Cover.nil | exact Take.here | apply Cover.cons | apply Take.there)) | exact g_post (rs := [.tmp 2]) rfl (.tmp rfl .nil) ⟨by rw [hN (fun h => by have := hk.1 h; omega)]; rfl, rfl⟩ (by repeat' (first | exact Cover.nil | exact Take.here | apply Cover.cons | apply Take.there))

theorem rfield_ok {ρ : Nat → Obj → Prop} (i : Ins) (c : UInt8) : Con Tryz.prog ρ 47 #[.agg (encIns i).toArray, .int .u8 c.toNat] [] (fun v H => v = .int .i64 (fieldI i c) ∧ H = []) := by
  have e0 : fieldI i c = if c = 65 then i.2.1 else if c = 66 then i.2.2.1 else if c = 67 then i.2.2.2.1 else i.2.2.2.2 := rfl
  have n1 : c = 65 ↔ (c.toNat : Int) = 65 := by rw [← UInt8.toNat_inj]; show c.toNat = 65 ↔ _; omega
  have n2 : c = 66 ↔ (c.toNat : Int) = 66 := by rw [← UInt8.toNat_inj]; show c.toNat = 66 ↔ _; omega
  have n3 : c = 67 ↔ (c.toNat : Int) = 67 := by rw [← UInt8.toNat_inj]; show c.toNat = 67 ↔ _; omega
  simp only [n1, n2, n3] at e0
  generalize fieldI i c = r at e0 ⊢
  refine con_intro Tryz.func47 Tryz.call47 rfl Tryz.ntmps47 rfl (L := [(0, _), (1, _)]) rfl fun w hh => ?_
  refine g_seq ?_
  refine g_region ?_
  refine g_eff (e_box rfl (by rfl)) rfl (fun _ _ => ?_)
  rintro ⟨b2, rfl, rfl⟩
  refine g_pure (p_assign rfl) rfl ?_
  refine g_nil ?_
  refine g_qt ?_
  refine g_seq ?_
  refine g_seq ?_
  refine g_region ?_
  refine g_pure (p_move rfl) rfl ?_
  refine g_nil ?_
  refine g_qt ?_
  refine g_block ?_
  refine g_seq ?_
  refine g_region ?_
  refine g_pure (p_eql rfl rfl) rfl ?_
  refine g_pure (p_assign rfl) rfl ?_
  refine g_nil ?_
  refine g_qt ?_
  refine g_ifdL rfl (fun h1 => ?_) (fun h1 => ?_)
  · refine g_seq ?_
    refine g_region ?_
    refine g_pure (p_fieldAddr rfl) rfl ?_
    refine g_pure (p_load (by rfl) rfl (by first | (apply Has.own; (repeat' (first | exact Take.here | apply Take.there)); done) | exact Has.ro (by assumption)) (by first | rfl | assumption)) rfl ?_
    refine g_pure (p_assign rfl) rfl ?_
    refine g_nil ?_
    refine g_qt ?_
    refine g_ret ?_
    refine g_qb_ret ?_
    refine g_qt_ret ?_
    first | (obtain rfl : r = i.2.1 := e0.trans (if_pos (by omega)); exact g_post (rs := [.tmp 4]) rfl (.tmp rfl .nil) ⟨rfl, rfl⟩ (by repeat' (first | exact Cover.nil | exact Take.here | apply Cover.cons | apply Take.there))) | (obtain rfl : r = i.2.2.1 := e0.trans ((if_neg (by omega)).trans (if_pos (by omega))); exact g_post (rs := [.tmp 4]) rfl (.tmp rfl .nil) ⟨rfl, rfl⟩ (by repeat' (first | exact Cover.nil | exact Take.here | apply Cover.cons | apply Take.there))) | (obtain rfl : r = i.2.2.2.1 := e0.trans ((if_neg (by omega)).trans ((if_neg (by omega)).trans (if_pos (by omega)))); exact g_post (rs := [.tmp 4]) rfl (.tmp rfl .nil) ⟨rfl, rfl⟩ (by repeat' (first | exact Cover.nil | exact Take.here | apply Cover.cons | apply Take.there))) | (obtain rfl : r = i.2.2.2.2 := e0.trans ((if_neg (by omega)).trans ((if_neg (by omega)).trans (if_neg (by omega)))); exact g_post (rs := [.tmp 4]) rfl (.tmp rfl .nil) ⟨rfl, rfl⟩ (by repeat' (first | exact Cover.nil | exact Take.here | apply Cover.cons | apply Take.there)))
  · refine g_seq ?_
    refine g_region ?_
    refine g_pure (p_eql rfl rfl) rfl ?_
    refine g_pure (p_assign rfl) rfl ?_
    refine g_nil ?_
    refine g_qt ?_
    refine g_ifdL rfl (fun h2 => ?_) (fun h2 => ?_)
    · refine g_seq ?_
      refine g_region ?_
      refine g_pure (p_fieldAddr rfl) rfl ?_
      refine g_pure (p_load (by rfl) rfl (by first | (apply Has.own; (repeat' (first | exact Take.here | apply Take.there)); done) | exact Has.ro (by assumption)) (by first | rfl | assumption)) rfl ?_
      refine g_pure (p_assign rfl) rfl ?_
      refine g_nil ?_
      refine g_qt ?_
      refine g_ret ?_
      refine g_qb_ret ?_
      refine g_qt_ret ?_
      first | (obtain rfl : r = i.2.1 := e0.trans (if_pos (by omega)); exact g_post (rs := [.tmp 4]) rfl (.tmp rfl .nil) ⟨rfl, rfl⟩ (by repeat' (first | exact Cover.nil | exact Take.here | apply Cover.cons | apply Take.there))) | (obtain rfl : r = i.2.2.1 := e0.trans ((if_neg (by omega)).trans (if_pos (by omega))); exact g_post (rs := [.tmp 4]) rfl (.tmp rfl .nil) ⟨rfl, rfl⟩ (by repeat' (first | exact Cover.nil | exact Take.here | apply Cover.cons | apply Take.there))) | (obtain rfl : r = i.2.2.2.1 := e0.trans ((if_neg (by omega)).trans ((if_neg (by omega)).trans (if_pos (by omega)))); exact g_post (rs := [.tmp 4]) rfl (.tmp rfl .nil) ⟨rfl, rfl⟩ (by repeat' (first | exact Cover.nil | exact Take.here | apply Cover.cons | apply Take.there))) | (obtain rfl : r = i.2.2.2.2 := e0.trans ((if_neg (by omega)).trans ((if_neg (by omega)).trans (if_neg (by omega)))); exact g_post (rs := [.tmp 4]) rfl (.tmp rfl .nil) ⟨rfl, rfl⟩ (by repeat' (first | exact Cover.nil | exact Take.here | apply Cover.cons | apply Take.there)))
    · refine g_seq ?_
      refine g_region ?_
      refine g_pure (p_eql rfl rfl) rfl ?_
      refine g_pure (p_assign rfl) rfl ?_
      refine g_nil ?_
      refine g_qt ?_
      refine g_ifdL rfl (fun h3 => ?_) (fun h3 => ?_)
      · refine g_seq ?_
        refine g_region ?_
        refine g_pure (p_fieldAddr rfl) rfl ?_
        refine g_pure (p_load (by rfl) rfl (by first | (apply Has.own; (repeat' (first | exact Take.here | apply Take.there)); done) | exact Has.ro (by assumption)) (by first | rfl | assumption)) rfl ?_
        refine g_pure (p_assign rfl) rfl ?_
        refine g_nil ?_
        refine g_qt ?_
        refine g_ret ?_
        refine g_qb_ret ?_
        refine g_qt_ret ?_
        first | (obtain rfl : r = i.2.1 := e0.trans (if_pos (by omega)); exact g_post (rs := [.tmp 4]) rfl (.tmp rfl .nil) ⟨rfl, rfl⟩ (by repeat' (first | exact Cover.nil | exact Take.here | apply Cover.cons | apply Take.there))) | (obtain rfl : r = i.2.2.1 := e0.trans ((if_neg (by omega)).trans (if_pos (by omega))); exact g_post (rs := [.tmp 4]) rfl (.tmp rfl .nil) ⟨rfl, rfl⟩ (by repeat' (first | exact Cover.nil | exact Take.here | apply Cover.cons | apply Take.there))) | (obtain rfl : r = i.2.2.2.1 := e0.trans ((if_neg (by omega)).trans ((if_neg (by omega)).trans (if_pos (by omega)))); exact g_post (rs := [.tmp 4]) rfl (.tmp rfl .nil) ⟨rfl, rfl⟩ (by repeat' (first | exact Cover.nil | exact Take.here | apply Cover.cons | apply Take.there))) | (obtain rfl : r = i.2.2.2.2 := e0.trans ((if_neg (by omega)).trans ((if_neg (by omega)).trans (if_neg (by omega)))); exact g_post (rs := [.tmp 4]) rfl (.tmp rfl .nil) ⟨rfl, rfl⟩ (by repeat' (first | exact Cover.nil | exact Take.here | apply Cover.cons | apply Take.there)))
      · refine g_skip ?_
        refine g_qb ?_
        refine g_qt ?_
        refine g_seq ?_
        refine g_region ?_
        refine g_pure (p_fieldAddr rfl) rfl ?_
        refine g_pure (p_load (by rfl) rfl (by first | (apply Has.own; (repeat' (first | exact Take.here | apply Take.there)); done) | exact Has.ro (by assumption)) (by first | rfl | assumption)) rfl ?_
        refine g_pure (p_assign rfl) rfl ?_
        refine g_nil ?_
        refine g_qt ?_
        refine g_ret ?_
        first | (obtain rfl : r = i.2.1 := e0.trans (if_pos (by omega)); exact g_post (rs := [.tmp 4]) rfl (.tmp rfl .nil) ⟨rfl, rfl⟩ (by repeat' (first | exact Cover.nil | exact Take.here | apply Cover.cons | apply Take.there))) | (obtain rfl : r = i.2.2.1 := e0.trans ((if_neg (by omega)).trans (if_pos (by omega))); exact g_post (rs := [.tmp 4]) rfl (.tmp rfl .nil) ⟨rfl, rfl⟩ (by repeat' (first | exact Cover.nil | exact Take.here | apply Cover.cons | apply Take.there))) | (obtain rfl : r = i.2.2.2.1 := e0.trans ((if_neg (by omega)).trans ((if_neg (by omega)).trans (if_pos (by omega)))); exact g_post (rs := [.tmp 4]) rfl (.tmp rfl .nil) ⟨rfl, rfl⟩ (by repeat' (first | exact Cover.nil | exact Take.here | apply Cover.cons | apply Take.there))) | (obtain rfl : r = i.2.2.2.2 := e0.trans ((if_neg (by omega)).trans ((if_neg (by omega)).trans (if_neg (by omega)))); exact g_post (rs := [.tmp 4]) rfl (.tmp rfl .nil) ⟨rfl, rfl⟩ (by repeat' (first | exact Cover.nil | exact Take.here | apply Cover.cons | apply Take.there)))
end Go.Proofs.YtcnfcoojmbjdlaaGreatDoor
