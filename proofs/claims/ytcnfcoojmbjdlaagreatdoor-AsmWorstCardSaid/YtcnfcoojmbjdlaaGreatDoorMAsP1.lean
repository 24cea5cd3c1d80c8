/- Own texts, put together: Pa Pb Pc Pd Pe Pf Po. Conditions: as told at each. -/
import Derived.Test.YtcnfcoojmbjdlaaGreatDoorMAsQ2
import Derived.Test.YtcnfcoojmbjdlaaGreatDoorRows
import Derived.Lib.LaidTab
import Derived.LaidLaws
import Derived.OpenShut
import Derived.Stop.LaidErr
import Derived.HandedShaped
import Derived.Shelf.Vars
import Derived.Lib.LaidIn
import Derived.Handed
import Derived.Test.YtcnfcoojmbjdlaaGreatDoorMAsP0
/- Chapter 26: reading a text that has an error: a routine, the whole. Conditions: what the library's variables hold (LibA). -/
namespace Go.Proofs.YtcnfcoojmbjdlaaGreatDoor
set_option maxRecDepth 8000
set_option linter.unusedVariables false
set_option linter.unusedSimpArgs false
set_option linter.unusedSectionVars false
open Go Go.Z Go.Z.Asm Go.RowKit Go.Z.Txt

set_option maxHeartbeats 400000 in
theorem routE_gen {ρ : Nat → Obj → Prop} {RD : RS → Assn} {p lb : Nat} {ls : List (List UInt8)} (hRD : RD = Rd 73 p lb ls.length) (hk : LibA ρ) (hL : Lns ρ lb ls) (s : RS) (hs : s.1 < ls.length) (he : (foreS ls s).2 ≠ 0) :
    Con Tryz.prog ρ 52 #[.pointer (some ⟨p, 0, none⟩)] [RD s]
    (fun v H => ∃ (nm : ByteArray) (ia oa na : Option Addr) (il ic ol oc nl nc : Nat) (rg : Int), v = .agg #[.string nm, .slice ia il ic, .slice oa ol oc, .int .i64 rg, .slice na nl nc, .slice none 0 0] ∧ H = [RD (foreS ls s)]) := by
  have hll := hL.len
  have hne := nextS_ne ls s
  have hat := nextS_at ls s
  obtain ⟨hw1, hw2⟩ := nextS_words (s := s) hL.each
  have hhl := headS_lt hs
  have l1 := listS_lt inB (-1) hhl
  have l2 := listS_lt outW (-1) l1
  have l3 := listS_lt regsW 1 l2
  have l4 := listS_lt initW (-1) l3
  have hhd : headS ls s = doneS (if (nextS ls s).1.headD [] ≠ routW ∨ (nextS ls s).1.length ≠ 2 then failS 5 (nextS ls s).2 else (nextS ls s).2) := rfl
  have hfo : foreS ls s = listS ls initW (-1) (listS ls regsW 1 (listS ls outW (-1) (listS ls inB (-1) (headS ls s)))) := rfl
  rw [hfo] at he ⊢
  have cN : ∀ {ρ' : Nat → Obj → Prop}, (∀ b o, ρ b o → ρ' b o) → Con Tryz.prog ρ' 73 #[.pointer (some ⟨p, 0, none⟩)] [RD s] (fun v H => ∃ wb : Nat, v = .slice (some ⟨wb, 0, none⟩) (nextS ls s).1.length (nextS ls s).1.length ∧ H = [Blk wb (.cells ((nextS ls s).1.map strV).toArray 9 (0, 0)), RD (nextS ls s).2]) := fun {ρ'} hρ => by
    have := next_ok (hk.mono hρ) (hL.mono hρ) p s hs
    rw [← hRD] at this; exact this
  have cF : ∀ (ρ' : Nat → Obj → Prop) (t : RS) (x : Int), Con Tryz.prog ρ' 74 #[.pointer (some ⟨p, 0, none⟩), .int .i64 x] [RD t] (fun v H => v = .tuple #[] ∧ H = [RD (failS x t)]) := fun ρ' t x => by
    have := fail_ok (ρ := ρ') p lb ls.length t x
    rw [← hRD] at this; exact this
  have cD : ∀ (ρ' : Nat → Obj → Prop) (t : RS), t.1 ≤ 4611686018427387904 → Con Tryz.prog ρ' 76 #[.pointer (some ⟨p, 0, none⟩)] [RD t] (fun v H => v = .tuple #[] ∧ H = [RD (doneS t)]) := fun ρ' t h => by
    have := done_ok (ρ := ρ') p lb ls.length t h
    rw [← hRD] at this; exact this
  have cL : ∀ {ρ' : Nat → Obj → Prop}, (∀ b o, ρ b o → ρ' b o) → ∀ (t : RS), t.1 < ls.length → ∀ (word : List UInt8) (many : Int) (u : RS), listS ls word many t = u → Con Tryz.prog ρ' 50 #[.pointer (some ⟨p, 0, none⟩), .string (strB word), .int .i64 many] [RD t]
      (fun v H => ∃ oa oc, ∃ out : List Int, v = .slice oa out.length oc ∧ H = [OwnSl 3 1 oa out.length oc (out.map encI), RD u]) := fun {ρ'} hρ t ht word many u hu => by
    have := list_ok (hk.mono hρ) (hL.mono hρ) p t ht word many
    rw [← hRD, hu] at this
    exact this.mono fun v H ⟨oa, oc, out, h1, _, _, h2⟩ => ⟨oa, oc, out, h1, h2⟩
  have cI : ∀ {ρ' : Nat → Obj → Prop}, (∀ b o, ρ b o → ρ' b o) → ∀ (t : RS), t.1 < ls.length → t.2 ≠ 0 → Con Tryz.prog ρ' 77 #[.pointer (some ⟨p, 0, none⟩)] [RD t] (fun v H => v = .tuple #[.agg #[.int .i64 0, .int .i64 0, .int .i64 0, .int .i64 0, .int .i64 0], .bool false] ∧ H = [RD t]) := fun {ρ'} hρ t ht h0 => by
    have := insE_ok (hk.mono hρ) (hL.mono hρ) p t ht h0
    rw [← hRD] at this; exact this
  refine con_intro Tryz.func52 Tryz.call52 rfl Tryz.ntmps52 rfl (L := [(0, _)]) rfl fun w hh => ?_
  refine g_seq ?_
  refine g_region ?_
  refine g_eff (e_alloc (by rfl)) rfl (fun _ _ => ?_)
  rintro ⟨b2, rfl, rfl⟩
  refine g_nil ?_
  refine g_qt ?_
  refine g_seq ?_
  refine g_region ?_
  refine g_pure (p_move rfl) rfl ?_
  refine g_call (Hin := [RD s]) (Hr := ?hr1) (R := ?rr1) rfl rfl rfl ?hin1 ?hc1 ?hk1
  case hin1 => repeat' (first | exact Cover.nil | exact Take.here | apply Cover.cons | apply Take.there)
  case hc1 => intro ρ' hρ hR; exact cN hρ
  rintro _ _ ⟨wb, rfl, rfl⟩
  generalize nextS ls s = N at hne hat hw1 hw2 hhd ⊢
  obtain ⟨W, s1⟩ := N
  dsimp only at hne hat hw1 hw2 hhd ⊢
  match W, hne with
  | w0 :: W, _ =>
  rw [List.headD_cons] at hhd
  refine g_pure (p_assign rfl) rfl ?_
  refine g_nil ?_
  refine g_qt ?_
  refine g_seq ?_
  refine g_join (fun _ : Unit => [(0, .pointer (some ⟨p, 0, none⟩)), (2, .pointer (some ⟨b2, 0, none⟩)), (3, .slice (some ⟨wb, 0, none⟩) (w0 :: W).length (w0 :: W).length)]) (fun _ => [Blk wb (.cells ((w0 :: W).map strV).toArray 9 (0, 0)), RD (if w0 ≠ routW ∨ (w0 :: W).length ≠ 2 then failS 5 s1 else s1), Blk b2 (.cells [.string ⟨#[]⟩, .slice none 0 0, .slice none 0 0, .int .i64 0, .slice none 0 0, .slice none 0 0].toArray 45 (0, 0))]) (fun _ => True) ?_ ?_
  · refine g_seq ?_
    refine g_region ?_
    refine g_pure (p_move rfl) rfl ?_
    refine g_pure (p_indexAddr rfl rfl (by simp) (fun _ => rfl)) rfl ?_
    refine g_pure (p_load (v := .string (strB w0)) (by rfl) rfl (Has.own (by repeat' (first | exact Take.here | apply Take.there))) (by rfl)) rfl ?_
    refine g_pure (p_neqs (i := strB w0) (j := strB routW) (by rfl) rfl rfl) rfl ?_
    refine g_pure (p_move rfl) rfl ?_
    refine g_splitnd rfl rfl (fun h1 => ?_) (fun h1 => ?_)
    · refine g_no rfl rfl rfl rfl ?_
      refine g_no rfl rfl rfl rfl ?_
      refine g_no rfl rfl rfl rfl ?_
      first | refine g_pure (p_pickt rfl rfl) rfl ?_ | refine g_pure (p_pickf rfl rfl) rfl ?_
      refine g_nil ?_
      refine g_qt ?_
      refine g_ift rfl ?_
      refine g_region ?_
      refine g_pure (p_move rfl) rfl ?_
      refine g_call (Hin := [RD s1]) (Hr := ?hr2) (R := ?rr2) rfl rfl rfl ?hin2 ?hc2 ?hk2
      case hin2 => repeat' (first | exact Cover.nil | exact Take.here | apply Cover.cons | apply Take.there)
      case hc2 => intro ρ' hρ hR; exact cF ρ' s1 5
      rintro _ _ ⟨rfl, rfl⟩
      refine g_nil ?_
      refine g_qn ?_
      first | (rw [if_pos (show w0 ≠ routW ∨ (w0 :: W).length ≠ 2 from by first | (refine .inl (fun h => ?_); have h9 := strB_inj.2 h; contradiction) | (refine .inr ?_; omega))]; exact g_joined () (by (repeat (first | exact trivial | refine ⟨by rfl, ?_⟩)); done) (by repeat' (first | exact Cover.nil | exact Take.here | apply Cover.cons | apply Take.there)) trivial) | (rw [if_neg (fun h : w0 ≠ routW ∨ (w0 :: W).length ≠ 2 => by rcases h with h | h; exact h (strB_inj.1 (by assumption)); omega)]; exact g_joined () (by (repeat (first | exact trivial | refine ⟨by rfl, ?_⟩)); done) (by repeat' (first | exact Cover.nil | exact Take.here | apply Cover.cons | apply Take.there)) trivial)
    · refine g_yes rfl rfl ?_
      refine g_pure (p_move rfl) rfl ?_
      refine g_yes rfl rfl ?_
      refine g_pure (p_len (by rfl) rfl) rfl ?_
      refine g_yes rfl rfl ?_
      refine g_pure (p_neq rfl rfl) rfl ?_
      first | refine g_pure (p_pickt rfl rfl) rfl ?_ | refine g_pure (p_pickf rfl rfl) rfl ?_
      refine g_nil ?_
      refine g_qt ?_
      refine g_ifndL rfl (fun h3 => ?_) (fun h3 => ?_)
      · refine g_region ?_
        refine g_pure (p_move rfl) rfl ?_
        refine g_call (Hin := [RD s1]) (Hr := ?hr3) (R := ?rr3) rfl rfl rfl ?hin3 ?hc3 ?hk3
        case hin3 => repeat' (first | exact Cover.nil | exact Take.here | apply Cover.cons | apply Take.there)
        case hc3 => intro ρ' hρ hR; exact cF ρ' s1 5
        rintro _ _ ⟨rfl, rfl⟩
        refine g_nil ?_
        refine g_qn ?_
        first | (rw [if_pos (show w0 ≠ routW ∨ (w0 :: W).length ≠ 2 from by first | (refine .inl (fun h => ?_); have h9 := strB_inj.2 h; contradiction) | (refine .inr ?_; omega))]; exact g_joined () (by (repeat (first | exact trivial | refine ⟨by rfl, ?_⟩)); done) (by repeat' (first | exact Cover.nil | exact Take.here | apply Cover.cons | apply Take.there)) trivial) | (rw [if_neg (fun h : w0 ≠ routW ∨ (w0 :: W).length ≠ 2 => by rcases h with h | h; exact h (strB_inj.1 (by assumption)); omega)]; exact g_joined () (by (repeat (first | exact trivial | refine ⟨by rfl, ?_⟩)); done) (by repeat' (first | exact Cover.nil | exact Take.here | apply Cover.cons | apply Take.there)) trivial)
      · refine g_skip ?_
        refine g_qn ?_
        first | (rw [if_pos (show w0 ≠ routW ∨ (w0 :: W).length ≠ 2 from by first | (refine .inl (fun h => ?_); have h9 := strB_inj.2 h; contradiction) | (refine .inr ?_; omega))]; exact g_joined () (by (repeat (first | exact trivial | refine ⟨by rfl, ?_⟩)); done) (by repeat' (first | exact Cover.nil | exact Take.here | apply Cover.cons | apply Take.there)) trivial) | (rw [if_neg (fun h : w0 ≠ routW ∨ (w0 :: W).length ≠ 2 => by rcases h with h | h; exact h (strB_inj.1 (by assumption)); omega)]; exact g_joined () (by (repeat (first | exact trivial | refine ⟨by rfl, ?_⟩)); done) (by repeat' (first | exact Cover.nil | exact Take.here | apply Cover.cons | apply Take.there)) trivial)
  rintro _ -
  refine g_qt ?_
  have hat2 : (if w0 ≠ routW ∨ (w0 :: W).length ≠ 2 then failS 5 s1 else s1).1 = s.1 := by split <;> exact hat
  generalize (if w0 ≠ routW ∨ (w0 :: W).length ≠ 2 then failS 5 s1 else s1) = s2 at hat2 hhd ⊢
  refine g_seq ?_
  refine g_region ?_
  refine g_pure (p_move rfl) rfl ?_
  refine g_call (Hin := [RD s2]) (Hr := ?hr4) (R := ?rr4) rfl rfl rfl ?hin4 ?hc4 ?hk4
  case hin4 => repeat' (first | exact Cover.nil | exact Take.here | apply Cover.cons | apply Take.there)
  case hc4 => intro ρ' hρ hR; exact cD ρ' s2 (by omega)
  rintro _ _ ⟨rfl, rfl⟩
  rw [← hhd]
  obtain ⟨wl, hwl⟩ : ∃ wl, ((w0 :: W).map strV)[(w0 :: W).length - 1]? = some (.string (strB wl)) := ⟨(w0 :: W)[(w0 :: W).length - 1]'(by simp), by rw [List.getElem?_map, List.getElem?_eq_getElem (by simp)]; rfl⟩
  generalize hs3 : headS ls s = s3 at hhl l1 l2 l3 l4 he ⊢
  generalize hs4 : listS ls inB (-1) s3 = s4 at l1 l2 l3 l4 he ⊢
  generalize hs5 : listS ls outW (-1) s4 = s5 at l2 l3 l4 he ⊢
  generalize hs6 : listS ls regsW 1 s5 = s6 at l3 l4 he ⊢
  generalize hs7 : listS ls initW (-1) s6 = s7 at l4 he ⊢
  refine g_nil ?_
  refine g_qt ?_
  refine g_seq ?_
  refine g_join (fun y : Nat × (Option Addr × Nat × Nat) × (Option Addr × Nat × Nat) => [(0, .pointer (some ⟨p, 0, none⟩)), (2, .pointer (some ⟨b2, 0, none⟩)), (4, .pointer (some ⟨y.1, 0, none⟩))])
    (fun y => [Blk y.1 (.cells [.string (strB wl), .slice y.2.1.1 y.2.1.2.1 y.2.1.2.2, .slice y.2.2.1 y.2.2.2.1 y.2.2.2.2, .int .i64 0, .slice none 0 0, .slice none 0 0].toArray 45 (0, 0)), RD s5, Blk b2 (.cells [.string ⟨#[]⟩, .slice none 0 0, .slice none 0 0, .int .i64 0, .slice none 0 0, .slice none 0 0].toArray 45 (0, 0))]) (fun _ => True) ?_ ?_
  · refine m_begin (.fl 0 0 (.fl 1 0 (.fl 2 0 (.fl 3 0 (.fl 4 0 (.fl 5 1 (.fl 6 0 (.fl 8 0 (.or (.ef 7 (.or (.ef 9 (.fl 10 0 (.ef 11 (.ef 12 .done)))) (.ef 11 (.ef 9 (.fl 10 0 (.ef 12 .done)))))) (.ef 11 (.ef 7 (.ef 9 (.fl 10 0 (.ef 12 .done)))))))))))))) [Blk wb (.cells ((w0 :: W).map strV).toArray 9 (0, 0)), Blk b2 (.cells [.string ⟨#[]⟩, .slice none 0 0, .slice none 0 0, .int .i64 0, .slice none 0 0, .slice none 0 0].toArray 45 (0, 0))] (by kernel_rfl) (by kernel_rfl) (by repeat' (first | exact Cover.nil | exact Take.here | apply Cover.cons | apply Take.there)) ?_
    refine m_float0 rfl (fun _ _ => p_move rfl) rfl ?_
    refine m_float0 rfl (fun _ _ => p_move rfl) rfl ?_
    refine m_float0 rfl (fun _ _ => p_len (by rfl) rfl) rfl ?_
    first | refine m_float0 rfl (fun _ _ => p_subi rfl rfl (by omega)) rfl ?_ | refine m_float0 rfl (fun _ _ => p_sub rfl rfl) rfl ?_
    refine m_float0 rfl (fun _ _ => p_indexAddr rfl rfl (by simp; omega) (fun _ => rfl)) rfl ?_
    refine m_float rfl (p_load (v := .string (strB wl)) (by rfl) rfl (Has.own (by repeat' (first | exact Take.here | apply Take.there))) (by rw [← hwl]; congr 1; simp)) rfl ?_
    refine m_float0 rfl (fun _ _ => p_move rfl) rfl ?_
    refine m_float0 rfl (fun _ _ => p_move rfl) rfl ?_
    refine m_or ?_ ?_
    · refine m_call (Hin := [RD s3]) (Hr := ?hr5) (R := ?rr5) rfl wantedN rfl rfl rfl ?hin5 ?hc5 ?hk5
      case hin5 => repeat' (first | exact Cover.nil | exact Take.here | apply Cover.cons | apply Take.there)
      case hc5 => intro ρ' hρ hR; exact cL hρ s3 hhl inB (-1) s4 hs4
      rintro _ _ ⟨a31, c31, out31, rfl, rfl⟩
      refine ⟨.some (by repeat' (first | exact Cover.nil | exact Take.here | apply Cover.cons | apply Take.there)), ?_⟩
      refine m_or ?_ ?_
      · refine m_call (Hin := [RD s4]) (Hr := ?hr6) (R := ?rr6) rfl wantedN rfl rfl rfl ?hin6 ?hc6 ?hk6
        case hin6 => repeat' (first | exact Cover.nil | exact Take.here | apply Cover.cons | apply Take.there)
        case hc6 => intro ρ' hρ hR; exact cL hρ s4 l1 outW (-1) s5 hs5
        rintro _ _ ⟨a33, c33, out33, rfl, rfl⟩
        refine ⟨.some (by repeat' (first | exact Cover.nil | exact Take.here | apply Cover.cons | apply Take.there)), ?_⟩
        refine m_float0 rfl (fun _ _ => p_build (by rfl) rfl (by rfl)) rfl ?_
        refine m_eff rfl (e_alloc (by rfl)) rfl (fun _ _ => ?_)
        rintro ⟨b4, rfl, rfl⟩
        refine ⟨.some (by repeat' (first | exact Cover.nil | exact Take.here | apply Cover.cons | apply Take.there)), ?_⟩
        first | refine m_eff0 rfl (e_storeO rfl rfl (by rfl) (by rfl) (by rfl) (by repeat' (first | exact Take.here | apply Take.there)) (by rfl)) (fun _ _ => ?_) | refine m_eff0 rfl (e_storeN rfl rfl (by rfl) (by rfl) (by rfl) (by repeat' (first | exact Take.here | apply Take.there)) (by simp)) (fun _ _ => ?_)
        rintro rfl
        refine ⟨.none (by kernel_rfl), ?_⟩
        refine m_nil ?_
        refine g_qn ?_
        exact g_joined (b4, (a31, out31.length, c31), (a33, out33.length, c33)) (by (repeat (first | exact trivial | refine ⟨by rfl, ?_⟩)); done) (by repeat' (first | exact Cover.nil | exact Take.here | apply Cover.cons | apply Take.there)) trivial
      refine m_eff rfl (e_alloc (by rfl)) rfl (fun _ _ => ?_)
      rintro ⟨b4, rfl, rfl⟩
      refine ⟨.some (by repeat' (first | exact Cover.nil | exact Take.here | apply Cover.cons | apply Take.there)), ?_⟩
      refine m_call (Hin := [RD s4]) (Hr := ?hr7) (R := ?rr7) rfl wantedN rfl rfl rfl ?hin7 ?hc7 ?hk7
      case hin7 => repeat' (first | exact Cover.nil | exact Take.here | apply Cover.cons | apply Take.there)
      case hc7 => intro ρ' hρ hR; exact cL hρ s4 l1 outW (-1) s5 hs5
      rintro _ _ ⟨a33, c33, out33, rfl, rfl⟩
      refine ⟨.some (by repeat' (first | exact Cover.nil | exact Take.here | apply Cover.cons | apply Take.there)), ?_⟩
      refine m_float0 rfl (fun _ _ => p_build (by rfl) rfl (by rfl)) rfl ?_
      first | refine m_eff0 rfl (e_storeO rfl rfl (by rfl) (by rfl) (by rfl) (by repeat' (first | exact Take.here | apply Take.there)) (by rfl)) (fun _ _ => ?_) | refine m_eff0 rfl (e_storeN rfl rfl (by rfl) (by rfl) (by rfl) (by repeat' (first | exact Take.here | apply Take.there)) (by simp)) (fun _ _ => ?_)
      rintro rfl
      refine ⟨.none (by kernel_rfl), ?_⟩
      refine m_nil ?_
      refine g_qn ?_
      exact g_joined (b4, (a31, out31.length, c31), (a33, out33.length, c33)) (by (repeat (first | exact trivial | refine ⟨by rfl, ?_⟩)); done) (by repeat' (first | exact Cover.nil | exact Take.here | apply Cover.cons | apply Take.there)) trivial
    refine m_eff rfl (e_alloc (by rfl)) rfl (fun _ _ => ?_)
    rintro ⟨b4, rfl, rfl⟩
    refine ⟨.some (by repeat' (first | exact Cover.nil | exact Take.here | apply Cover.cons | apply Take.there)), ?_⟩
    refine m_call (Hin := [RD s3]) (Hr := ?hr8) (R := ?rr8) rfl wantedN rfl rfl rfl ?hin8 ?hc8 ?hk8
    case hin8 => repeat' (first | exact Cover.nil | exact Take.here | apply Cover.cons | apply Take.there)
    case hc8 => intro ρ' hρ hR; exact cL hρ s3 hhl inB (-1) s4 hs4
    rintro _ _ ⟨a31, c31, out31, rfl, rfl⟩
    refine ⟨.some (by repeat' (first | exact Cover.nil | exact Take.here | apply Cover.cons | apply Take.there)), ?_⟩
    refine m_call (Hin := [RD s4]) (Hr := ?hr9) (R := ?rr9) rfl wantedN rfl rfl rfl ?hin9 ?hc9 ?hk9
    case hin9 => repeat' (first | exact Cover.nil | exact Take.here | apply Cover.cons | apply Take.there)
    case hc9 => intro ρ' hρ hR; exact cL hρ s4 l1 outW (-1) s5 hs5
    rintro _ _ ⟨a33, c33, out33, rfl, rfl⟩
    refine ⟨.some (by repeat' (first | exact Cover.nil | exact Take.here | apply Cover.cons | apply Take.there)), ?_⟩
    refine m_float0 rfl (fun _ _ => p_build (by rfl) rfl (by rfl)) rfl ?_
    first | refine m_eff0 rfl (e_storeO rfl rfl (by rfl) (by rfl) (by rfl) (by repeat' (first | exact Take.here | apply Take.there)) (by rfl)) (fun _ _ => ?_) | refine m_eff0 rfl (e_storeN rfl rfl (by rfl) (by rfl) (by rfl) (by repeat' (first | exact Take.here | apply Take.there)) (by simp)) (fun _ _ => ?_)
    rintro rfl
    refine ⟨.none (by kernel_rfl), ?_⟩
    refine m_nil ?_
    refine g_qn ?_
    exact g_joined (b4, (a31, out31.length, c31), (a33, out33.length, c33)) (by (repeat (first | exact trivial | refine ⟨by rfl, ?_⟩)); done) (by repeat' (first | exact Cover.nil | exact Take.here | apply Cover.cons | apply Take.there)) trivial
  rintro ⟨b4, ⟨a31, n31, c31⟩, ⟨a33, n33, c33⟩⟩ -
  dsimp only
  refine g_qt ?_
  refine g_seq ?_
  refine g_seq ?_
  refine g_region ?_
  refine g_pure (p_move rfl) rfl ?_
  refine g_call (Hin := [RD s5]) (Hr := ?hr10) (R := ?rr10) rfl rfl rfl ?hin10 ?hc10 ?hk10
  case hin10 => repeat' (first | exact Cover.nil | exact Take.here | apply Cover.cons | apply Take.there)
  case hc10 => intro ρ' hρ hR; exact cL hρ s5 l2 regsW 1 s6 hs6
  rintro _ _ ⟨a36, c36, out36, rfl, rfl⟩
  refine g_pure (p_len (by rfl) rfl) rfl ?_
  refine g_pure (p_move rfl) rfl ?_
  refine g_nil ?_
  refine g_qt ?_
  refine g_block ?_
  refine g_loop (fun q : Nat × Int => [(0, .pointer (some ⟨p, 0, none⟩)), (2, .pointer (some ⟨b2, 0, none⟩)), (4, .pointer (some ⟨b4, 0, none⟩)), (36, .slice a36 out36.length c36), (37, .int .i64 out36.length), (38, .int .i64 q.1)])
    (fun q => [OwnSl 3 1 a36 out36.length c36 (out36.map encI), Blk b4 (.cells [.string (strB wl), .slice a31 n31 c31, .slice a33 n33 c33, .int .i64 q.2, .slice none 0 0, .slice none 0 0].toArray 45 (0, 0)), RD s6, Blk b2 (.cells [.string ⟨#[]⟩, .slice none 0 0, .slice none 0 0, .int .i64 0, .slice none 0 0, .slice none 0 0].toArray 45 (0, 0))])
    (fun q => q.1 ≤ out36.length) (fun q => out36.length - q.1) (0, 0) (Nat.zero_le _) (by (repeat (first | exact trivial | refine ⟨by rfl, ?_⟩)); done) (by repeat' (first | exact Cover.nil | exact Take.here | apply Cover.cons | apply Take.there)) ?_
  rintro ⟨k, z⟩ hk1
  dsimp only at hk1 ⊢
  have hol : out36.length ≤ 4294967296 ∨ True := .inr trivial
  refine g_seq ?_
  refine g_region ?_
  refine g_pure (p_lss rfl rfl) rfl ?_
  refine g_nil ?_
  refine g_qt ?_
  refine g_seq ?_
  refine g_ifd rfl (fun q => ?_) (fun q => ?_)
  · have hkl : k < out36.length := by omega
    have hx := mapI2 out36 hkl
    refine g_own (e := 3) (size := 1) (a1 := a36) (k := out36.length) (cap := c36) (xs := out36.map encI) (by repeat' (first | exact Take.here | apply Take.there)) (fun _ h _ _ => absurd h (by omega)) ?_
    rintro g cur rfl hc1 hc2 hcl htk hxl
    refine g_skip ?_
    refine g_qt ?_
    refine g_seq ?_
    refine g_block ?_
    refine g_seq ?_
    refine g_region ?_
    refine g_pure (p_indexAddr rfl rfl (by omega) (fun _ => rfl)) rfl ?_
    refine g_pure (p_load (v := .int .i64 out36[k]) (by rfl) rfl (Has.own (by repeat' (first | exact Take.here | apply Take.there))) (own_at (k := k) htk (by show 0 + (k : Int).toNat * 1 = _; omega) hx)) rfl ?_
    refine g_pure (p_assign rfl) rfl ?_
    refine g_nil ?_
    refine g_qt ?_
    refine g_region ?_
    refine g_pure (p_move rfl) rfl ?_
    refine g_pure (p_fieldAddr rfl) rfl ?_
    first | refine g_eff0 (e_storeO rfl rfl (by rfl) (by rfl) (by rfl) (by repeat' (first | exact Take.here | apply Take.there)) (by rfl)) (fun _ _ => ?_) | refine g_eff0 (e_store1 (by rfl) rfl rfl rfl (by repeat' (first | exact Take.here | apply Take.there)) (by first | decide | (simp <;> omega) | omega)) (fun _ _ => ?_)
    rintro rfl
    refine g_nil ?_
    refine g_qb ?_
    refine g_qt ?_
    refine g_region ?_
    first | refine g_pure (p_addi rfl rfl (by omega)) rfl ?_ | refine g_pure (p_add rfl rfl) rfl ?_
    refine g_pure (p_move rfl) rfl ?_
    refine g_nil ?_
    refine g_qn ?_
    refine g_fold (e := 3) (size := 1) (g := g) (k := out36.length) (cap := c36) (cur := cur) (xs := out36.map encI) (by repeat' (first | exact Take.here | apply Take.there)) hc1 hc2 hcl htk ?_
    exact g_next (k + 1, out36[k]) (by (repeat (first | exact trivial | refine ⟨by rfl, ?_⟩)); done) (by repeat' (first | exact Cover.nil | exact Take.here | apply Cover.cons | apply Take.there)) hkl (by dsimp only; omega)
  · refine g_exit ?_
    refine g_qt_exit ?_
    refine g_qn_exit ?_
    refine g_qb_exit ?_
    refine g_qt ?_
    refine g_seq ?_
    refine g_region ?_
    refine g_pure (p_move rfl) rfl ?_
    refine g_call (Hin := [RD s6]) (Hr := ?hr11) (R := ?rr11) rfl rfl rfl ?hin11 ?hc11 ?hk11
    case hin11 => repeat' (first | exact Cover.nil | exact Take.here | apply Cover.cons | apply Take.there)
    case hc11 => intro ρ' hρ hR; exact cL hρ s6 l3 initW (-1) s7 hs7
    rintro _ _ ⟨a46, c46, out46, rfl, rfl⟩
    refine g_pure (p_fieldAddr rfl) rfl ?_
    first | refine g_eff0 (e_storeO rfl rfl (by rfl) (by rfl) (by rfl) (by repeat' (first | exact Take.here | apply Take.there)) (by rfl)) (fun _ _ => ?_) | refine g_eff0 (e_store1 (by rfl) rfl rfl rfl (by repeat' (first | exact Take.here | apply Take.there)) (by first | decide | (simp <;> omega) | omega)) (fun _ _ => ?_)
    rintro rfl
    refine g_nil ?_
    refine g_qt ?_
    refine g_block ?_
    refine g_loop (fun _ : Unit => [(0, .pointer (some ⟨p, 0, none⟩)), (2, .pointer (some ⟨b2, 0, none⟩)), (4, .pointer (some ⟨b4, 0, none⟩))])
      (fun _ => [Blk b4 (.cells [.string (strB wl), .slice a31 n31 c31, .slice a33 n33 c33, .int .i64 z, .slice a46 out46.length c46, .slice none 0 0].toArray 45 (0, 0)), RD s7, Blk b2 (.cells [.string ⟨#[]⟩, .slice none 0 0, .slice none 0 0, .int .i64 0, .slice none 0 0, .slice none 0 0].toArray 45 (0, 0))])
      (fun _ => True) (fun _ => 0) () trivial (by (repeat (first | exact trivial | refine ⟨by rfl, ?_⟩)); done) (by repeat' (first | exact Cover.nil | exact Take.here | apply Cover.cons | apply Take.there)) ?_
    rintro _ -
    refine g_block ?_
    refine g_seq ?_
    refine g_region ?_
    refine g_pure (p_move rfl) rfl ?_
    refine g_call (Hin := [RD s7]) (Hr := ?hr12) (R := ?rr12) rfl rfl rfl ?hin12 ?hc12 ?hk12
    case hin12 => repeat' (first | exact Cover.nil | exact Take.here | apply Cover.cons | apply Take.there)
    case hc12 => intro ρ' hρ hR; exact cI hρ s7 l4 he
    rintro _ _ ⟨rfl, rfl⟩
    refine g_pure (p_move rfl) rfl ?_
    refine g_pure (p_extract rfl rfl) rfl ?_
    refine g_pure (p_extract rfl rfl) rfl ?_
    refine g_eff (e_alloc (by rfl)) rfl (fun _ _ => ?_)
    rintro ⟨b7, rfl, rfl⟩
    first | refine g_eff0 (e_storeO rfl rfl (by rfl) (by rfl) (by rfl) (by repeat' (first | exact Take.here | apply Take.there)) (by rfl)) (fun _ _ => ?_) | refine g_eff0 (e_storeN rfl rfl (by rfl) (by rfl) (by rfl) (by repeat' (first | exact Take.here | apply Take.there)) (by simp)) (fun _ _ => ?_)
    rintro rfl
    refine g_pure (p_assign rfl) rfl ?_
    refine g_nil ?_
    refine g_qt ?_
    refine g_seq ?_
    refine g_seq ?_
    refine g_region ?_
    refine g_pure (p_move rfl) rfl ?_
    refine g_pure (p_not rfl) rfl ?_
    refine g_nil ?_
    refine g_qt ?_
    refine g_ift rfl ?_
    refine g_seq ?_
    refine g_region ?_
    first | refine g_pure (p_loadO (by rfl) rfl (by first | (apply Has.own; (repeat' (first | exact Take.here | apply Take.there)); done) | exact Has.ro (by assumption)) (by rfl)) rfl ?_ | refine g_pure (p_loadN (by rfl) rfl (by first | (apply Has.own; (repeat' (first | exact Take.here | apply Take.there)); done) | exact Has.ro (by assumption)) (by first | rfl | assumption)) rfl ?_
    first | refine g_eff0 (e_storeO rfl rfl (by rfl) (by rfl) (by rfl) (by repeat' (first | exact Take.here | apply Take.there)) (by rfl)) (fun _ _ => ?_) | refine g_eff0 (e_storeN rfl rfl (by rfl) (by rfl) (by rfl) (by repeat' (first | exact Take.here | apply Take.there)) (by simp)) (fun _ _ => ?_)
    rintro rfl
    refine g_nil ?_
    refine g_qt ?_
    refine g_ret ?_
    refine g_qt_ret ?_
    refine g_qb_ret ?_
    refine g_qn_ret ?_
    refine g_qb_ret ?_
    exact g_post (rs := [.cell 2 45]) rfl (Res.cellN (by rfl) rfl (Has.own (by repeat' (first | exact Take.here | apply Take.there))) (by rfl) .nil) ⟨_, _, _, _, _, _, _, _, _, _, _, rfl, rfl⟩ (by repeat' (first | exact Cover.nil | exact Take.here | apply Cover.cons | apply Take.there))
theorem routE_ok {ρ : Nat → Obj → Prop} (hk : LibA ρ) {lb : Nat} {ls : List (List UInt8)} (hL : Lns ρ lb ls) (p : Nat) (s : RS) (hs : s.1 < ls.length) (he : (foreS ls s).2 ≠ 0) :
    Con Tryz.prog ρ 52 #[.pointer (some ⟨p, 0, none⟩)] [Rd 73 p lb ls.length s]
    (fun v H => ∃ (nm : ByteArray) (ia oa na : Option Addr) (il ic ol oc nl nc : Nat) (rg : Int), v = .agg #[.string nm, .slice ia il ic, .slice oa ol oc, .int .i64 rg, .slice na nl nc, .slice none 0 0] ∧ H = [Rd 73 p lb ls.length (foreS ls s)]) := routE_gen rfl hk hL s hs he
end Go.Proofs.YtcnfcoojmbjdlaaGreatDoor
/- Chapter 26: reading a text whose first routine has an error. Conditions: what the library's variables hold (LibA). -/
namespace Go.Proofs.YtcnfcoojmbjdlaaGreatDoor
set_option maxRecDepth 8000
set_option linter.unusedVariables false
set_option linter.unusedSimpArgs false
set_option linter.unusedSectionVars false
open Go Go.Z Go.Z.Asm Go.RowKit Go.Z.Txt

theorem parseE_ok {ρ : Nat → Obj → Prop} (hk : LibA ρ) (s : List UInt8) (hs : s.length ≤ 4194304) (s1 s2 : RS) (h1 : listS (pieces 10 s) enumW (-1) (0, 0) = s1) (hm : moreS (pieces 10 s) s1 = true) (h2 : foreS (pieces 10 s) s1 = s2) (he : s2.2 ≠ 0) :
    Con Tryz.prog ρ 25 #[.string (strB s)] [] (fun v H => v = .tuple #[.agg #[.slice none 0 0, .slice none 0 0], .int .i64 ((s2.1 : Int) + 1), .int .i64 s2.2] ∧ H = []) := by
  have hsz : (strB s).size = s.length := rfl
  have hpl := pieces_le 10 s
  have hp0 := pieces_ne 10 s
  have hpm : ∀ l ∈ pieces 10 s, l.length < 4294967281 := fun l hl => Nat.lt_of_le_of_lt (pieces_mem hl).2 (by omega)
  generalize hls : pieces 10 s = ls at h1 hm h2 hpl hp0 hpm
  have hpos : 0 < ls.length := List.length_pos_iff.2 hp0
  have l1 : s1.1 < ls.length := by rw [← h1]; exact listS_lt enumW (-1) hpos
  have l2 : s2.1 < ls.length := by
    rw [← h2]
    exact listS_lt initW (-1) (listS_lt regsW 1 (listS_lt outW (-1) (listS_lt inB (-1) (headS_lt l1))))
  have hmf : moreS ls s2 = false := by unfold moreS; rw [decide_eq_false he]; rfl
  have mkL : ∀ {ρ' : Nat → Obj → Prop} {lb : Nat}, ρ' lb (.cells (ls.map strV).toArray 9 (0, 0)) → Lns ρ' lb ls := fun h => ⟨⟨_, _, h⟩, hpos, by omega, hpm⟩
  refine con_intro Tryz.func25 Tryz.call25 rfl Tryz.ntmps25 rfl (L := [(0, _)]) rfl fun w hh => ?_
  refine g_seq ?_
  refine g_region ?_
  refine g_eff (e_alloc (by rfl)) rfl (fun _ _ => ?_)
  rintro ⟨b2, rfl, rfl⟩
  refine g_pure (p_assign rfl) rfl ?_
  refine g_pure (p_assign rfl) rfl ?_
  refine g_nil ?_
  refine g_qt ?_
  refine g_seq ?_
  refine g_seq ?_
  refine g_region ?_
  refine g_pure (p_move rfl) rfl ?_
  refine g_pure (p_lens (by rfl) rfl) rfl ?_
  refine g_pure (p_gtr rfl rfl) rfl ?_
  refine g_nil ?_
  refine g_qt ?_
  refine g_ifd rfl (fun q0 => ?_) (fun q0 => ?_)
  · exfalso; omega
  · refine g_skip ?_
    refine g_qt ?_
    refine g_seq ?_
    refine g_region ?_
    refine g_pure (p_move rfl) rfl ?_
    refine g_call (Hin := []) (Hr := ?hr1) (R := ?rr1) rfl rfl rfl ?hin1 ?hc1 ?hk1
    case hin1 => repeat' (first | exact Cover.nil | exact Take.here | apply Cover.cons | apply Take.there)
    case hc1 => intro ρ' hρ hR; exact split_ok (hk.mono hρ) s 10 (by omega)
    rintro _ _ ⟨lb, rfl, rfl⟩
    rw [hls]
    refine g_pure (p_build (by rfl) rfl (by rfl)) rfl ?_
    refine g_eff (e_box rfl (by rfl)) rfl (fun _ _ => ?_)
    rintro ⟨b15, rfl, rfl⟩
    refine g_pure (p_assign rfl) rfl ?_
    refine g_nil ?_
    refine g_qt ?_
    refine g_seq ?_
    refine g_region ?_
    refine g_pure (p_move rfl) rfl ?_
    rw [show Blk b15 (.cells [.slice (some ⟨lb, 0, none⟩) ls.length ls.length, .int .i64 0, .int .i64 0].toArray 73 (0, 0)) = Rd 73 b15 lb ls.length (0, 0) from rfl]
    refine g_call (Hin := [Rd 73 b15 lb ls.length (0, 0)]) (Hr := ?hr2) (R := ?rr2) rfl rfl rfl ?hin2 ?hc2 ?hk2
    case hin2 => repeat' (first | exact Cover.nil | exact Take.here | apply Cover.cons | apply Take.there)
    case hc2 => intro ρ' hρ hR; exact (by have := list_ok (hk.mono hρ) (mkL (Take.ro (A := Blk lb (.cells (ls.map strV).toArray 9 (0, 0))) (by repeat' (first | exact Take.here | apply Take.there)) hR).blk) b15 (0, 0) hpos enumW (-1); rw [h1] at this; exact this)
    rintro _ _ ⟨a17, c17, out17, rfl, -, -, rfl⟩
    refine g_pure (p_build (by rfl) rfl (by rfl)) rfl ?_
    refine g_eff (e_alloc (by rfl)) rfl (fun _ _ => ?_)
    rintro ⟨b6, rfl, rfl⟩
    first | refine g_eff0 (e_storeO rfl rfl (by rfl) (by rfl) (by rfl) (by repeat' (first | exact Take.here | apply Take.there)) (by rfl)) (fun _ _ => ?_) | refine g_eff0 (e_storeN rfl rfl (by rfl) (by rfl) (by rfl) (by repeat' (first | exact Take.here | apply Take.there)) (by simp)) (fun _ _ => ?_)
    rintro rfl
    refine g_nil ?_
    refine g_qt ?_
    refine g_seq ?_
    refine g_block ?_
    refine g_loop (fun _ : Option (Option Addr × Nat) => [(2, .pointer (some ⟨b2, 0, none⟩)), (5, .pointer (some ⟨b15, 0, none⟩)), (6, .pointer (some ⟨b6, 0, none⟩))])
      (fun q => match q with
        | none => [Blk b6 (.cells [.slice a17 out17.length c17, .slice none 0 0].toArray 25 (0, 0)), Rd 73 b15 lb ls.length s1, Blk lb (.cells (ls.map strV).toArray 9 (0, 0)), Blk b2 (.cells [.slice none 0 0, .slice none 0 0].toArray 25 (0, 0))]
        | some (ra, rc) => [Blk b6 (.cells [.slice a17 out17.length c17, .slice ra 1 rc].toArray 25 (0, 0)), Rd 73 b15 lb ls.length s2, Blk lb (.cells (ls.map strV).toArray 9 (0, 0)), Blk b2 (.cells [.slice none 0 0, .slice none 0 0].toArray 25 (0, 0))])
      (fun _ => True) (fun q => match q with | none => 1 | some _ => 0) none trivial (by (repeat (first | exact trivial | refine ⟨by rfl, ?_⟩)); done) (by repeat' (first | exact Cover.nil | exact Take.here | apply Cover.cons | apply Take.there)) ?_
    rintro (_ | ⟨ra, rc⟩) -
    · dsimp only
      refine g_seq ?_
      refine g_seq ?_
      refine g_region ?_
      refine g_pure (p_move rfl) rfl ?_
      refine g_call (Hin := [Rd 73 b15 lb ls.length s1]) (Hr := ?hr3) (R := ?rr3) rfl rfl rfl ?hin3 ?hc3 ?hk3
      case hin3 => repeat' (first | exact Cover.nil | exact Take.here | apply Cover.cons | apply Take.there)
      case hc3 => intro ρ' hρ hR; exact (by have := more_ok (mkL (Take.ro (A := Blk lb (.cells (ls.map strV).toArray 9 (0, 0))) (by repeat' (first | exact Take.here | apply Take.there)) hR).blk) b15 s1 l1; rw [hm] at this; exact this)
      rintro _ _ ⟨rfl, rfl⟩
      refine g_nil ?_
      refine g_qt ?_
      refine g_ift rfl ?_
      refine g_skip ?_
      refine g_qt ?_
      refine g_block ?_
      refine g_ownnil (e := 45) (size := 6) ?_
      refine m_begin (.fl 0 0 (.fl 1 1 (.fl 2 0 (.ef 3 (.ef 4 (.ef 5 (.fl 6 0 (.ef 7 .done)))))))) [Blk b6 (.cells [.slice a17 out17.length c17, .slice none 0 0].toArray 25 (0, 0)), Blk lb (.cells (ls.map strV).toArray 9 (0, 0)), Blk b2 (.cells [.slice none 0 0, .slice none 0 0].toArray 25 (0, 0))] (by kernel_rfl) (by kernel_rfl) (by repeat' (first | exact Cover.nil | exact Take.here | apply Cover.cons | apply Take.there)) ?_
      refine m_float0 rfl (fun _ _ => p_fieldAddr rfl) rfl ?_
      refine m_float rfl (p_load (by rfl) rfl (by first | (apply Has.own; (repeat' (first | exact Take.here | apply Take.there)); done) | exact Has.ro (by assumption)) (by first | rfl | assumption)) rfl ?_
      refine m_float0 rfl (fun _ _ => p_move rfl) rfl ?_
      refine m_call (Hin := [Rd 73 b15 lb ls.length s1]) (Hr := ?hr4) (R := ?rr4) rfl wantedN rfl rfl rfl ?hin4 ?hc4 ?hk4
      case hin4 => repeat' (first | exact Cover.nil | exact Take.here | apply Cover.cons | apply Take.there)
      case hc4 => intro ρ' hρ hR; exact (by have := routE_ok (hk.mono hρ) (mkL (Take.ro (A := Blk lb (.cells (ls.map strV).toArray 9 (0, 0))) (by repeat' (first | exact Take.here | apply Take.there)) hR).blk) b15 s1 l1 (by rw [h2]; exact he); rw [h2] at this; exact this)
      rintro _ _ ⟨nm, ia, oa, na, il, ic, ol, oc, nl, nc, rg, rfl, rfl⟩
      refine ⟨.some (by repeat' (first | exact Cover.nil | exact Take.here | apply Cover.cons | apply Take.there)), ?_⟩
      refine m_eff rfl (e_bs (xs := [.tmp 24]) rfl rfl rfl (by rfl) (by rfl) rfl (by rfl)) rfl (fun _ _ => ?_)
      rintro ⟨b25, rfl, rfl⟩
      refine ⟨.some (by repeat' (first | exact Cover.nil | exact Take.here | apply Cover.cons | apply Take.there)), ?_⟩
      refine m_eff rfl (e_appendO (by rfl) (by rfl) rfl rfl (by first | (apply Has.own; (repeat' (first | exact Take.here | apply Take.there)); done) | exact Has.ro (by assumption)) (by rfl) (by rfl) (by repeat' (first | exact Take.here | apply Take.there)) (by omega) (by first | omega | (dsimp only; omega) | (simp <;> omega)) (by omega)) rfl (fun _ _ => ?_)
      rintro ⟨a26, c26, rfl, rfl⟩
      refine ⟨.none (by kernel_rfl), ?_⟩
      refine m_float0 rfl (fun _ _ => p_fieldAddr rfl) rfl ?_
      first | refine m_eff0 rfl (e_storeO rfl rfl (by rfl) (by rfl) (by rfl) (by repeat' (first | exact Take.here | apply Take.there)) (by rfl)) (fun _ _ => ?_) | refine m_eff0 rfl (e_store1 (by rfl) rfl rfl rfl (by repeat' (first | exact Take.here | apply Take.there)) (by first | decide | (simp <;> omega) | omega)) (fun _ _ => ?_)
      rintro rfl
      refine ⟨.none (by kernel_rfl), ?_⟩
      refine m_nil ?_
      refine g_qb ?_
      refine g_qn ?_
      exact g_next (some (a26, c26)) (by (repeat (first | exact trivial | refine ⟨by rfl, ?_⟩)); done) (by repeat' (first | exact Cover.nil | exact Take.here | apply Cover.cons | apply Take.there)) trivial Nat.one_pos
    · dsimp only
      refine g_seq ?_
      refine g_seq ?_
      refine g_region ?_
      refine g_pure (p_move rfl) rfl ?_
      refine g_call (Hin := [Rd 73 b15 lb ls.length s2]) (Hr := ?hr5) (R := ?rr5) rfl rfl rfl ?hin5 ?hc5 ?hk5
      case hin5 => repeat' (first | exact Cover.nil | exact Take.here | apply Cover.cons | apply Take.there)
      case hc5 => intro ρ' hρ hR; exact (by have := more_ok (mkL (Take.ro (A := Blk lb (.cells (ls.map strV).toArray 9 (0, 0))) (by repeat' (first | exact Take.here | apply Take.there)) hR).blk) b15 s2 l2; rw [hmf] at this; exact this)
      rintro _ _ ⟨rfl, rfl⟩
      refine g_nil ?_
      refine g_qt ?_
      refine g_iff rfl ?_
      refine g_exit ?_
      refine g_qt_exit ?_
      refine g_qn_exit ?_
      refine g_qb_exit ?_
      refine g_qt ?_
      refine g_seq ?_
      refine g_seq ?_
      refine g_region ?_
      refine g_pure (p_move rfl) rfl ?_
      refine g_pure (p_nilCheck rfl) rfl ?_
      refine g_pure (p_fieldAddr rfl) rfl ?_
      refine g_pure (p_load (by rfl) rfl (by first | (apply Has.own; (repeat' (first | exact Take.here | apply Take.there)); done) | exact Has.ro (by assumption)) (by first | rfl | assumption)) rfl ?_
      refine g_pure (p_neq rfl rfl) rfl ?_
      refine g_nil ?_
      refine g_qt ?_
      obtain ⟨at2, e2⟩ := s2
      dsimp only at he l2
      unfold Rd
      dsimp only
      refine g_ifnd rfl (fun q1 => ?_) (fun q1 => ?_)
      · refine g_seq ?_
        refine m_begin0 (.fl 0 0 (.fl 1 0 (.fl 2 0 (.fl 3 0 (.fl 4 1 (.fl 5 0 (.fl 6 0 (.fl 7 0 (.fl 8 0 (.fl 9 1 (.ef 10 (.fl 11 0 (.fl 12 0 .done))))))))))))) (by kernel_rfl) (by kernel_rfl) ?_
        refine m_float0 rfl (fun _ _ => p_build (by rfl) rfl (by rfl)) rfl ?_
        refine m_float0 rfl (fun _ _ => p_move rfl) rfl ?_
        refine m_float0 rfl (fun _ _ => p_nilCheck rfl) rfl ?_
        refine m_float0 rfl (fun _ _ => p_fieldAddr rfl) rfl ?_
        refine m_float rfl (p_load (by rfl) rfl (by first | (apply Has.own; (repeat' (first | exact Take.here | apply Take.there)); done) | exact Has.ro (by assumption)) (by first | rfl | assumption)) rfl ?_
        first | refine m_float0 rfl (fun _ _ => p_addi rfl rfl (by omega)) rfl ?_ | refine m_float0 rfl (fun _ _ => p_add rfl rfl) rfl ?_
        refine m_float0 rfl (fun _ _ => p_move rfl) rfl ?_
        refine m_float0 rfl (fun _ _ => p_nilCheck rfl) rfl ?_
        refine m_float0 rfl (fun _ _ => p_fieldAddr rfl) rfl ?_
        refine m_float rfl (p_load (by rfl) rfl (by first | (apply Has.own; (repeat' (first | exact Take.here | apply Take.there)); done) | exact Has.ro (by assumption)) (by first | rfl | assumption)) rfl ?_
        first | refine m_eff0 rfl (e_storeO rfl rfl (by rfl) (by rfl) (by rfl) (by repeat' (first | exact Take.here | apply Take.there)) (by rfl)) (fun _ _ => ?_) | refine m_eff0 rfl (e_storeN rfl rfl (by rfl) (by rfl) (by rfl) (by repeat' (first | exact Take.here | apply Take.there)) (by simp)) (fun _ _ => ?_)
        rintro rfl
        refine ⟨.some (by repeat' (first | exact Cover.nil | exact Take.here | apply Cover.cons | apply Take.there)), ?_⟩
        refine m_float0 rfl (fun _ _ => p_assign rfl) rfl ?_
        refine m_float0 rfl (fun _ _ => p_assign rfl) rfl ?_
        refine m_nil ?_
        refine g_qt ?_
        refine g_ret ?_
        refine g_qt_ret ?_
        exact g_post (rs := [.cell 2 25, .tmp 3, .tmp 4]) rfl (Res.cellN (by rfl) rfl (Has.own (by repeat' (first | exact Take.here | apply Take.there))) (by rfl) (.tmp rfl (.tmp rfl .nil))) ⟨rfl, rfl⟩ (by repeat' (first | exact Cover.nil | exact Take.here | apply Cover.cons | apply Take.there))
      · exact absurd q1 he
end Go.Proofs.YtcnfcoojmbjdlaaGreatDoor
/- Chapter 26: the chapter's examples hold. Conditions: what the library's variables hold (LibA). -/
namespace Go.Z
set_option maxRecDepth 8000
set_option linter.unusedVariables false
set_option linter.unusedSimpArgs false
set_option linter.unusedSectionVars false
open Go
section
variable {P : Program} {n : Nat} {L : Fr} {H H' Hs : List Assn} {M : Mx} {Q : Exit → Act → World → Prop} {ops : Array Oper} {ty : TypeId} {ps : String} {af : Array Edge} {bf : Array Nat} {F T : List Nat} {i : Nat} {rest : Tree}
/-- an effect in a drawn region that is carried out, behind a guard -/
theorem m_effY {d j dj : Nat} {b : Bool} {op : Op} {post : Value → List Assn → Prop} (ho : ops[i]? = some ⟨some d, op, ty, ps, af, some (j, b)⟩) (hd : (ops[j]?).bind (·.dst) = some dj) (hl : L.lookup dj = some (.bool b)) (hp : Eff P M n L H ⟨some d, op, ty, ps, af, some (j, b)⟩ post) (hn : Nat.blt d n = true)
    (k : ∀ v H', post v H' → Kept bf F T i H' Hs ∧ G M n ((d, v) :: L) H' (TM P ops bf F M Hs rest (upd bf F T i) Q)) : G M n L H (TM P ops bf F M Hs (.ef i rest) T Q) := by
  unfold G TM at *
  intro a w ha hm
  simp only [wpMix, wpOp, ho]
  rw [if_pos (by simp [Region.wanted, yielded_of hd ha hl])]
  refine .inl (hp a w ha hm _ _ fun v H' w' hpost hm' => ?_)
  obtain ⟨hc, hk⟩ := k v H' hpost
  exact ⟨hc.ms hm', hk _ _ (ha.put (by simpa using hn) v) hm'⟩
end
end Go.Z
namespace Go.Z.Asm
set_option maxRecDepth 8000
set_option linter.unusedVariables false
set_option linter.unusedSimpArgs false
set_option linter.unusedSectionVars false
open Go Go.Z Go.Lib Go.Z.Txt Go.Z.Val
theorem numbersS_err {W : List (List UInt8)} {many : Int} {s : RS} (h : s.2 ≠ 0) : numbersS W many s = s := by
  rw [numbersS_eq]
  have h1 : badS W s = s := by unfold badS; split; exact failS_err h; rfl
  rw [h1]
  have h2 : (if 0 ≤ many ∧ (W.length : Int) ≠ many then failS 5 s else s) = s := by split; exact failS_err h; rfl
  rw [h2]
  unfold doneS
  rw [if_neg h]
theorem listS_err {ls : List (List UInt8)} {word : List UInt8} {many : Int} {s : RS} (h : s.2 ≠ 0) : listS ls word many s = s := by
  unfold listS
  rw [nextS_err h]
  dsimp only
  have h2 : (if ([[]] : List (List UInt8)).headD [] ≠ word then failS 5 s else s) = s := by split; exact failS_err h; rfl
  rw [h2, numbersS_err h]
theorem listS_bad {ls : List (List UInt8)} {word : List UInt8} {many : Int} {s : RS} {t : RS} (h : (if (nextS ls s).1.headD [] ≠ word then failS 5 (nextS ls s).2 else (nextS ls s).2) = t) (h0 : t.2 ≠ 0) : listS ls word many s = t := by
  unfold listS
  dsimp only
  rw [h, numbersS_err h0]
def badT : List UInt8 := [101, 110, 117, 109, 115, 10, 114, 111, 117, 116, 105, 110, 101, 32, 102, 10, 105, 110, 10, 111, 116, 32, 49, 10]
theorem bad_enums : listS (pieces 10 badT) enumW (-1) (0, 0) = (1, 0) := by decide
theorem bad_more : moreS (pieces 10 badT) (1, 0) = true := by decide
theorem bad_fore : foreS (pieces 10 badT) (1, 0) = (3, 5) := by
  have h1 : headS (pieces 10 badT) (1, 0) = (2, 0) := by decide
  have h2 : listS (pieces 10 badT) inB (-1) (2, 0) = (3, 0) := by decide
  have h3 : listS (pieces 10 badT) outW (-1) (3, 0) = (3, 5) := listS_bad (by decide) (by decide)
  unfold foreS
  rw [h1, h2, h3, listS_err (by decide), listS_err (by decide)]
theorem small_text : textP smallI = [101, 110, 117, 109, 115, 10, 114, 111, 117, 116, 105, 110, 101, 32, 102, 10, 105, 110, 32, 50, 32, 50, 10, 111, 117, 116, 32, 50, 10, 114, 101, 103, 115, 32, 51, 10, 105, 110, 105, 116, 10, 122, 101, 114, 111, 32, 48, 32, 50, 10, 97, 112, 112, 108, 121, 32, 50, 32, 48, 32, 49, 32, 54, 10, 109, 111, 118, 101, 32, 50, 32, 50, 10, 101, 110, 100, 10] := by
  have it : ∀ n : Int, 0 ≤ n → n < 10 → itoa n = [UInt8.ofNat (48 + n.toNat)] := fun n h0 h1 => by
    rw [itoa_pos (by omega), dec_small (by omega)]
  have i0 : itoa 0 = [48] := it 0 (by decide) (by decide)
  have i1 : itoa 1 = [49] := it 1 (by decide) (by decide)
  have i2 : itoa 2 = [50] := it 2 (by decide) (by decide)
  have i3 : itoa 3 = [51] := it 3 (by decide) (by decide)
  have i6 : itoa 6 = [54] := it 6 (by decide) (by decide)
  simp [textP, smallI, rtT, insT, lineP, usedP, opRow, knownP, opT, fieldsV, i0, i1, i2, i3, i6]
def smallR : List Value := encIns (8, 0, 2, 0, 0) ++ encIns (6, 2, 0, 1, 6) ++ encIns (2, 2, 2, 0, 0)
theorem small_im {ρ : Nat → Obj → Prop} {b1 b2 b6 b8 : Nat} {T1 T2 T6 T8 : TypeId} {f1 f2 f6 f8 : Nat × Nat} (h1 : ρ b1 (.cells [encI 2, encI 2].toArray T1 f1)) (h2 : ρ b2 (.cells [encI 2].toArray T2 f2)) (h6 : ρ b6 (.cells smallR.toArray T6 f6))
    (h8 : ρ b8 (.cells [.string (strB [102]), .slice (some ⟨b1, 0, none⟩) 2 2, .slice (some ⟨b2, 0, none⟩) 1 1, .int .i64 3, .slice none 0 0, .slice (some ⟨b6, 0, none⟩) 3 3].toArray T8 f8)) : ImI ρ none (some ⟨b8, 0, none⟩) smallI where
  es := rsl_nil
  rs := rts_one h8 ⟨_, 2, _, 1, _, 0, _, 3, rfl, RSl.of_blk (k := 2) (size := 1) h1 (Nat.le_refl _), RSl.of_blk (k := 1) (size := 1) h2 (Nat.le_refl _), rsl_nil, RSl.of_blk (k := 3) (size := 5) h6 (Nat.le_refl _)⟩
  el := by decide
  rl := by decide
  ei := fun v h => absurd h List.not_mem_nil
  ok := fun x hx => by
    rw [show x = smallI.2[0] from List.mem_singleton.1 hx]
    exact ⟨by decide, by decide, by decide, by decide, by decide, fun v hv => by simp [smallI] at hv; subst hv; exact ⟨by decide, by decide⟩, fun v hv => by simp [smallI] at hv; subst hv; exact ⟨by decide, by decide⟩, ⟨by decide, by decide⟩, fun v hv => by simp [smallI] at hv, fun i hi => by
      simp [smallI] at hi
      rcases hi with rfl | rfl | rfl <;> exact ⟨⟨by decide, by decide⟩, ⟨by decide, by decide⟩, ⟨by decide, by decide⟩, ⟨by decide, by decide⟩, ⟨by decide, by decide⟩⟩⟩
end Go.Z.Asm
namespace Go.Proofs.YtcnfcoojmbjdlaaGreatDoor
set_option maxRecDepth 8000
set_option linter.unusedVariables false
set_option linter.unusedSimpArgs false
set_option linter.unusedSectionVars false
open Go Go.Z Go.Z.Asm Go.RowKit Go.Z.Txt

theorem smallA_ok {ρ : Nat → Obj → Prop} : Con Tryz.prog ρ 28 #[] [] (fun v H => ∃ b1 b2 b6 b8 : Nat, v = .agg #[.slice none 0 0, .slice (some ⟨b8, 0, none⟩) 1 1] ∧
    H = [Blk b8 (.cells [.string (strB [102]), .slice (some ⟨b1, 0, none⟩) 2 2, .slice (some ⟨b2, 0, none⟩) 1 1, .int .i64 3, .slice none 0 0, .slice (some ⟨b6, 0, none⟩) 3 3].toArray 45 (0, 0)), Blk b6 (.cells smallR.toArray 32 (0, 0)), Blk b2 (.cells [encI 2].toArray 3 (0, 0)), Blk b1 (.cells [encI 2, encI 2].toArray 3 (0, 0))]) := by
  refine con_intro Tryz.func28 Tryz.call28 rfl Tryz.ntmps28 rfl (L := []) rfl fun w hh => ?_
  refine g_seq ?_
  refine g_region ?_
  refine g_eff (e_alloc (by rfl)) rfl (fun _ _ => ?_)
  rintro ⟨b0, rfl, rfl⟩
  refine g_nil ?_
  refine g_qt ?_
  refine g_seq ?_
  refine g_region ?_
  refine g_eff (e_bs (xs := [.const (.int .i64 2), .const (.int .i64 2)]) rfl rfl rfl (by rfl) (by rfl) rfl (by rfl)) rfl (fun _ _ => ?_)
  rintro ⟨b1, rfl, rfl⟩
  refine g_eff (e_bs (xs := [.const (.int .i64 2)]) rfl rfl rfl (by rfl) (by rfl) rfl (by rfl)) rfl (fun _ _ => ?_)
  rintro ⟨b2, rfl, rfl⟩
  refine g_pure (p_build (by rfl) rfl (by rfl)) rfl ?_
  refine g_pure (p_build (by rfl) rfl (by rfl)) rfl ?_
  refine g_pure (p_build (by rfl) rfl (by rfl)) rfl ?_
  refine g_eff (e_bs (xs := [.tmp 3, .tmp 4, .tmp 5]) rfl rfl rfl (by rfl) (by rfl) rfl (by rfl)) rfl (fun _ _ => ?_)
  rintro ⟨b6, rfl, rfl⟩
  refine g_pure (p_build (by rfl) rfl (by rfl)) rfl ?_
  refine g_eff (e_bs (xs := [.tmp 7]) rfl rfl rfl (by rfl) (by rfl) rfl (by rfl)) rfl (fun _ _ => ?_)
  rintro ⟨b8, rfl, rfl⟩
  refine g_pure (p_build (by rfl) rfl (by rfl)) rfl ?_
  first | refine g_eff0 (e_storeO rfl rfl (by rfl) (by rfl) (by rfl) (by repeat' (first | exact Take.here | apply Take.there)) (by rfl)) (fun _ _ => ?_) | refine g_eff0 (e_storeN rfl rfl (by rfl) (by rfl) (by rfl) (by repeat' (first | exact Take.here | apply Take.there)) (by simp)) (fun _ _ => ?_)
  rintro rfl
  refine g_nil ?_
  refine g_qt ?_
  refine g_ret ?_
  exact g_post (rs := [.cell 0 25]) rfl (Res.cellN (by rfl) rfl (Has.own (by repeat' (first | exact Take.here | apply Take.there))) (by rfl) .nil) ⟨b1, b2, b6, b8, rfl, rfl⟩ (by repeat' (first | exact Cover.nil | exact Take.here | apply Cover.cons | apply Take.there))

theorem lives_ok {ρ : Nat → Obj → Prop} (hk : LibA ρ) : Con Tryz.prog ρ 11 #[] [] (fun v H => v = .bool true ∧ H = []) := by
  refine con_intro Tryz.func11 Tryz.call11 rfl Tryz.ntmps11 rfl (L := []) rfl fun w hh => ?_
  refine g_seq ?_
  refine g_region ?_
  refine g_pure (p_assign rfl) rfl ?_
  refine g_nil ?_
  refine g_qt ?_
  refine g_seq ?_
  refine g_region ?_
  refine g_call (Hin := []) (Hr := ?hr1) (R := ?rr1) rfl rfl rfl ?hin1 ?hc1 ?hk1
  case hin1 => repeat' (first | exact Cover.nil | exact Take.here | apply Cover.cons | apply Take.there)
  case hc1 => intro ρ' hρ hR; exact smallA_ok
  rintro _ _ ⟨m1, m2, m6, m8, rfl, rfl⟩
  have cT : ∀ {ρ' : Nat → Obj → Prop} {b8 : Nat}, (∀ b o, ρ b o → ρ' b o) → ImI ρ' none (some ⟨b8, 0, none⟩) smallI → Con Tryz.prog ρ' 23 #[.agg #[.slice none 0 0, .slice (some ⟨b8, 0, none⟩) 1 1]] [] (fun v H => v = .tuple #[.string (strB [101, 110, 117, 109, 115, 10, 114, 111, 117, 116, 105, 110, 101, 32, 102, 10, 105, 110, 32, 50, 32, 50, 10, 111, 117, 116, 32, 50, 10, 114, 101, 103, 115, 32, 51, 10, 105, 110, 105, 116, 10, 122, 101, 114, 111, 32, 48, 32, 50, 10, 97, 112, 112, 108, 121, 32, 50, 32, 48, 32, 49, 32, 54, 10, 109, 111, 118, 101, 32, 50, 32, 50, 10, 101, 110, 100, 10]), .int .i64 0] ∧ H = []) := fun hρ h => by
    have := textA_ok (ec := 0) (rc := 1) (hk.mono hρ).ops (hk.mono hρ).tab h
    rw [small_check, if_pos rfl, small_text] at this
    exact this
  have cW : ∀ {ρ' : Nat → Obj → Prop} {b8 : Nat}, (∀ b o, ρ b o → ρ' b o) → ImI ρ' none (some ⟨b8, 0, none⟩) smallI → Con Tryz.prog ρ' 21 #[.agg #[.slice none 0 0, .slice (some ⟨b8, 0, none⟩) 1 1]] [] (fun v H => v = .tuple #[.int .i64 3, .int .i64 0] ∧ H = []) := fun hρ h => by
    have := worstA_ok (ec := 0) (rc := 1) (hk.mono hρ).ops h
    rw [small_worst] at this
    exact this
  have cC : ∀ {ρ' : Nat → Obj → Prop} {b8 : Nat}, (∀ b o, ρ b o → ρ' b o) → ImI ρ' none (some ⟨b8, 0, none⟩) smallI → Con Tryz.prog ρ' 14 #[.agg #[.slice none 0 0, .slice (some ⟨b8, 0, none⟩) 1 1]] [] (fun v H => v = .int .i64 0 ∧ H = []) := fun hρ h => by
    have := checkA_ok (ec := 0) (rc := 1) (hk.mono hρ).ops h
    rw [small_check] at this
    exact this
  have cU : ∀ {ρ' : Nat → Obj → Prop} {b8 : Nat}, ImI ρ' none (some ⟨b8, 0, none⟩) smallI → Con Tryz.prog ρ' 17 #[.agg #[.slice none 0 0, .slice (some ⟨b8, 0, none⟩) 1 1], .agg (encIns (6, 2, 0, 1, 6)).toArray] [] (fun v H => ∃ a c, v = .slice a 2 c ∧ H = [OwnSl 3 1 a 2 c ([0, 1].map encI)]) := fun h => by
    have := usesA_ok (ec := 0) (rc := 1) h (6, 2, 0, 1, 6) ⟨by decide, by decide⟩
    rw [small_uses] at this
    exact this
  have cS : ∀ {ρ' : Nat → Obj → Prop} {b8 : Nat}, ImI ρ' none (some ⟨b8, 0, none⟩) smallI → Con Tryz.prog ρ' 12 #[.agg #[.slice none 0 0, .slice (some ⟨b8, 0, none⟩) 1 1], .agg #[.slice none 0 0, .slice (some ⟨b8, 0, none⟩) 1 1]] [] (fun v H => v = .bool true ∧ H = []) := fun h => by
    have := sameA_ok (ec := 0) (rc := 1) (ed := 0) (rd := 1) h h
    rw [decide_eq_true (p := smallI = smallI) rfl] at this
    exact this
  have cP : ∀ {ρ' : Nat → Obj → Prop}, (∀ b o, ρ b o → ρ' b o) → Con Tryz.prog ρ' 25 #[.string (strB badT)] [] (fun v H => v = .tuple #[.agg #[.slice none 0 0, .slice none 0 0], .int .i64 4, .int .i64 5] ∧ H = []) := fun hρ =>
    parseE_ok (hk.mono hρ) badT (by decide) (1, 0) (3, 5) bad_enums bad_more bad_fore (by decide)
  have cN : ∀ {ρ' : Nat → Obj → Prop} (a b : Option Addr) (c : Nat), RSl ρ' 1 a 2 ([0, 1].map encI) → RSl ρ' 1 b 2 ([0, 1].map encI) → Con Tryz.prog ρ' 16 #[.slice a 2 c, .slice b 2 2] [] (fun v H => v = .bool true ∧ H = []) := fun a b c h1 h2 => by
    have := Ints_ok a b c 2 [0, 1] [0, 1] h1 h2 (by decide)
    rw [decide_eq_true (p := ([0, 1] : List Int) = [0, 1]) rfl] at this
    exact this
  refine g_eff (e_alloc (by rfl)) rfl (fun _ _ => ?_)
  rintro ⟨b1, rfl, rfl⟩
  first | refine g_eff0 (e_storeO rfl rfl (by rfl) (by rfl) (by rfl) (by repeat' (first | exact Take.here | apply Take.there)) (by rfl)) (fun _ _ => ?_) | refine g_eff0 (e_storeN rfl rfl (by rfl) (by rfl) (by rfl) (by repeat' (first | exact Take.here | apply Take.there)) (by simp)) (fun _ _ => ?_)
  rintro rfl
  refine g_nil ?_
  refine g_qt ?_
  refine g_seq ?_
  refine g_region ?_
  first | refine g_pure (p_loadO (by rfl) rfl (by first | (apply Has.own; (repeat' (first | exact Take.here | apply Take.there)); done) | exact Has.ro (by assumption)) (by rfl)) rfl ?_ | refine g_pure (p_loadN (by rfl) rfl (by first | (apply Has.own; (repeat' (first | exact Take.here | apply Take.there)); done) | exact Has.ro (by assumption)) (by first | rfl | assumption)) rfl ?_
  refine g_call (Hin := []) (Hr := ?hr2) (R := ?rr2) rfl rfl rfl ?hin2 ?hc2 ?hk2
  case hin2 => repeat' (first | exact Cover.nil | exact Take.here | apply Cover.cons | apply Take.there)
  case hc2 => intro ρ' hρ hR; exact cT hρ (small_im (Take.ro (A := Blk m1 (.cells [encI 2, encI 2].toArray 3 (0, 0))) (by repeat' (first | exact Take.here | apply Take.there)) hR).blk (Take.ro (A := Blk m2 (.cells [encI 2].toArray 3 (0, 0))) (by repeat' (first | exact Take.here | apply Take.there)) hR).blk (Take.ro (A := Blk m6 (.cells smallR.toArray 32 (0, 0))) (by repeat' (first | exact Take.here | apply Take.there)) hR).blk (Take.ro (A := Blk m8 (.cells [.string (strB [102]), .slice (some ⟨m1, 0, none⟩) 2 2, .slice (some ⟨m2, 0, none⟩) 1 1, .int .i64 3, .slice none 0 0, .slice (some ⟨m6, 0, none⟩) 3 3].toArray 45 (0, 0))) (by repeat' (first | exact Take.here | apply Take.there)) hR).blk)
  rintro _ _ ⟨rfl, rfl⟩
  refine g_pure (p_move rfl) rfl ?_
  refine g_pure (p_extract rfl rfl) rfl ?_
  refine g_pure (p_extract rfl rfl) rfl ?_
  refine g_pure (p_assign rfl) rfl ?_
  refine g_pure (p_assign rfl) rfl ?_
  refine g_nil ?_
  refine g_qt ?_
  refine g_seq ?_
  refine g_region ?_
  first | refine g_pure (p_loadO (by rfl) rfl (by first | (apply Has.own; (repeat' (first | exact Take.here | apply Take.there)); done) | exact Has.ro (by assumption)) (by rfl)) rfl ?_ | refine g_pure (p_loadN (by rfl) rfl (by first | (apply Has.own; (repeat' (first | exact Take.here | apply Take.there)); done) | exact Has.ro (by assumption)) (by first | rfl | assumption)) rfl ?_
  refine g_call (Hin := []) (Hr := ?hr3) (R := ?rr3) rfl rfl rfl ?hin3 ?hc3 ?hk3
  case hin3 => repeat' (first | exact Cover.nil | exact Take.here | apply Cover.cons | apply Take.there)
  case hc3 => intro ρ' hρ hR; exact cW hρ (small_im (Take.ro (A := Blk m1 (.cells [encI 2, encI 2].toArray 3 (0, 0))) (by repeat' (first | exact Take.here | apply Take.there)) hR).blk (Take.ro (A := Blk m2 (.cells [encI 2].toArray 3 (0, 0))) (by repeat' (first | exact Take.here | apply Take.there)) hR).blk (Take.ro (A := Blk m6 (.cells smallR.toArray 32 (0, 0))) (by repeat' (first | exact Take.here | apply Take.there)) hR).blk (Take.ro (A := Blk m8 (.cells [.string (strB [102]), .slice (some ⟨m1, 0, none⟩) 2 2, .slice (some ⟨m2, 0, none⟩) 1 1, .int .i64 3, .slice none 0 0, .slice (some ⟨m6, 0, none⟩) 3 3].toArray 45 (0, 0))) (by repeat' (first | exact Take.here | apply Take.there)) hR).blk)
  rintro _ _ ⟨rfl, rfl⟩
  refine g_pure (p_move rfl) rfl ?_
  refine g_pure (p_extract rfl rfl) rfl ?_
  refine g_pure (p_extract rfl rfl) rfl ?_
  refine g_pure (p_assign rfl) rfl ?_
  refine g_pure (p_assign rfl) rfl ?_
  refine g_nil ?_
  refine g_qt ?_
  refine g_seq ?_
  refine g_region ?_
  refine g_call (Hin := []) (Hr := ?hr4) (R := ?rr4) rfl rfl rfl ?hin4 ?hc4 ?hk4
  case hin4 => repeat' (first | exact Cover.nil | exact Take.here | apply Cover.cons | apply Take.there)
  case hc4 => intro ρ' hρ hR; exact cP hρ
  rintro _ _ ⟨rfl, rfl⟩
  refine g_pure (p_move rfl) rfl ?_
  refine g_pure (p_extract rfl rfl) rfl ?_
  refine g_pure (p_extract rfl rfl) rfl ?_
  refine g_pure (p_extract rfl rfl) rfl ?_
  refine g_eff (e_alloc (by rfl)) rfl (fun _ _ => ?_)
  rintro ⟨b6, rfl, rfl⟩
  first | refine g_eff0 (e_storeO rfl rfl (by rfl) (by rfl) (by rfl) (by repeat' (first | exact Take.here | apply Take.there)) (by rfl)) (fun _ _ => ?_) | refine g_eff0 (e_storeN rfl rfl (by rfl) (by rfl) (by rfl) (by repeat' (first | exact Take.here | apply Take.there)) (by simp)) (fun _ _ => ?_)
  rintro rfl
  refine g_pure (p_assign rfl) rfl ?_
  refine g_pure (p_assign rfl) rfl ?_
  refine g_nil ?_
  refine g_qt ?_
  refine g_seq ?_
  refine g_join (fun _ : Unit => [(0, .bool true)]) (fun _ => []) (fun _ => True) ?_ ?_
  · refine m_begin0 (.fl 0 0 (.fl 1 0 (.fl 2 0 (.fl 3 0 (.fl 4 0 (.fl 5 0 (.fl 6 0 (.fl 7 0 (.fl 8 0 (.fl 9 0 (.fl 10 0 (.fl 11 0 (.fl 12 0 (.fl 13 0 (.fl 14 0 (.fl 15 0 (.fl 16 0 (.fl 17 0 (.fl 18 0 (.fl 19 0 (.fl 20 0 (.fl 21 0 (.fl 22 0 (.fl 23 0 (.fl 24 1 (.fl 25 0 (.fl 26 0 (.fl 27 0 (.fl 28 0 (.fl 29 1 (.ef 30 (.fl 31 0 (.fl 32 0 (.fl 33 0 (.fl 34 1 (.fl 35 0 (.fl 36 1 (.fl 37 0 (.fl 38 0 (.fl 39 1 (.fl 40 0 (.fl 41 1 (.or (.ef 42 (.ef 43 (.ef 44 (.fl 45 0 (.fl 46 0 (.fl 47 1 (.fl 48 1 (.ef 49 (.fl 50 0 (.fl 51 0 .done)))))))))) (.ef 43 (.ef 42 (.ef 44 (.fl 45 0 (.fl 46 0 (.fl 47 1 (.fl 48 1 (.ef 49 (.fl 50 0 (.fl 51 0 .done))))))))))))))))))))))))))))))))))))))))))))))))))))) (by kernel_rfl) (by kernel_rfl) ?_
    refine m_float0 rfl (fun _ _ => p_move rfl) rfl ?_
    refine m_float0 rfl (fun _ _ => p_eqlT rfl rfl rfl) rfl ?_
    refine m_float0 rfl (fun _ _ => p_move rfl) rfl ?_
    refine m_yes0 rfl rfl rfl (fun _ _ => p_move rfl) rfl ?_
    refine m_yes0 rfl rfl rfl (fun _ _ => p_eqlsT (by rfl) rfl rfl rfl) rfl ?_
    first | refine m_float0 rfl (fun _ _ => p_pickt rfl rfl) rfl ?_ | refine m_float0 rfl (fun _ _ => p_pickf rfl rfl) rfl ?_
    refine m_float0 rfl (fun _ _ => p_move rfl) rfl ?_
    refine m_yes0 rfl rfl rfl (fun _ _ => p_move rfl) rfl ?_
    refine m_yes0 rfl rfl rfl (fun _ _ => p_eqlT rfl rfl rfl) rfl ?_
    first | refine m_float0 rfl (fun _ _ => p_pickt rfl rfl) rfl ?_ | refine m_float0 rfl (fun _ _ => p_pickf rfl rfl) rfl ?_
    refine m_float0 rfl (fun _ _ => p_move rfl) rfl ?_
    refine m_yes0 rfl rfl rfl (fun _ _ => p_move rfl) rfl ?_
    refine m_yes0 rfl rfl rfl (fun _ _ => p_eqlT rfl rfl rfl) rfl ?_
    first | refine m_float0 rfl (fun _ _ => p_pickt rfl rfl) rfl ?_ | refine m_float0 rfl (fun _ _ => p_pickf rfl rfl) rfl ?_
    refine m_float0 rfl (fun _ _ => p_move rfl) rfl ?_
    refine m_yes0 rfl rfl rfl (fun _ _ => p_move rfl) rfl ?_
    refine m_yes0 rfl rfl rfl (fun _ _ => p_eqlT rfl rfl rfl) rfl ?_
    first | refine m_float0 rfl (fun _ _ => p_pickt rfl rfl) rfl ?_ | refine m_float0 rfl (fun _ _ => p_pickf rfl rfl) rfl ?_
    refine m_float0 rfl (fun _ _ => p_move rfl) rfl ?_
    refine m_yes0 rfl rfl rfl (fun _ _ => p_move rfl) rfl ?_
    refine m_yes0 rfl rfl rfl (fun _ _ => p_eqlT rfl rfl rfl) rfl ?_
    first | refine m_float0 rfl (fun _ _ => p_pickt rfl rfl) rfl ?_ | refine m_float0 rfl (fun _ _ => p_pickf rfl rfl) rfl ?_
    refine m_float0 rfl (fun _ _ => p_move rfl) rfl ?_
    refine m_yes0 rfl rfl rfl (fun _ _ => p_fieldAddr rfl) rfl ?_
    refine m_yes rfl rfl rfl (p_load (by rfl) rfl (by first | (apply Has.own; (repeat' (first | exact Take.here | apply Take.there)); done) | exact Has.ro (by assumption)) (by first | rfl | assumption)) rfl ?_
    refine m_yes0 rfl rfl rfl (fun _ _ => p_len (by rfl) rfl) rfl ?_
    refine m_yes0 rfl rfl rfl (fun _ _ => p_eqlT rfl rfl rfl) rfl ?_
    first | refine m_float0 rfl (fun _ _ => p_pickt rfl rfl) rfl ?_ | refine m_float0 rfl (fun _ _ => p_pickf rfl rfl) rfl ?_
    refine m_float0 rfl (fun _ _ => p_move rfl) rfl ?_
    first | refine m_yes rfl rfl rfl (p_loadO (by rfl) rfl (by first | (apply Has.own; (repeat' (first | exact Take.here | apply Take.there)); done) | exact Has.ro (by assumption)) (by rfl)) rfl ?_ | refine m_yes rfl rfl rfl (p_loadN (by rfl) rfl (by first | (apply Has.own; (repeat' (first | exact Take.here | apply Take.there)); done) | exact Has.ro (by assumption)) (by first | rfl | assumption)) rfl ?_
    refine m_call (Hin := []) (Hr := ?hr5) (R := ?rr5) rfl (wantedY rfl rfl) rfl rfl rfl ?hin5 ?hc5 ?hk5
    case hin5 => repeat' (first | exact Cover.nil | exact Take.here | apply Cover.cons | apply Take.there)
    case hc5 => intro ρ' hρ hR; exact cC hρ (small_im (Take.ro (A := Blk m1 (.cells [encI 2, encI 2].toArray 3 (0, 0))) (by repeat' (first | exact Take.here | apply Take.there)) hR).blk (Take.ro (A := Blk m2 (.cells [encI 2].toArray 3 (0, 0))) (by repeat' (first | exact Take.here | apply Take.there)) hR).blk (Take.ro (A := Blk m6 (.cells smallR.toArray 32 (0, 0))) (by repeat' (first | exact Take.here | apply Take.there)) hR).blk (Take.ro (A := Blk m8 (.cells [.string (strB [102]), .slice (some ⟨m1, 0, none⟩) 2 2, .slice (some ⟨m2, 0, none⟩) 1 1, .int .i64 3, .slice none 0 0, .slice (some ⟨m6, 0, none⟩) 3 3].toArray 45 (0, 0))) (by repeat' (first | exact Take.here | apply Take.there)) hR).blk)
    rintro _ _ ⟨rfl, rfl⟩
    refine ⟨.some (by repeat' (first | exact Cover.nil | exact Take.here | apply Cover.cons | apply Take.there)), ?_⟩
    refine m_yes0 rfl rfl rfl (fun _ _ => p_eqlT rfl rfl rfl) rfl ?_
    first | refine m_float0 rfl (fun _ _ => p_pickt rfl rfl) rfl ?_ | refine m_float0 rfl (fun _ _ => p_pickf rfl rfl) rfl ?_
    refine m_float0 rfl (fun _ _ => p_move rfl) rfl ?_
    first | refine m_yes rfl rfl rfl (p_loadO (by rfl) rfl (by first | (apply Has.own; (repeat' (first | exact Take.here | apply Take.there)); done) | exact Has.ro (by assumption)) (by rfl)) rfl ?_ | refine m_yes rfl rfl rfl (p_loadN (by rfl) rfl (by first | (apply Has.own; (repeat' (first | exact Take.here | apply Take.there)); done) | exact Has.ro (by assumption)) (by first | rfl | assumption)) rfl ?_
    refine m_yes0 rfl rfl rfl (fun _ _ => p_fieldAddr rfl) rfl ?_
    refine m_yes rfl rfl rfl (p_load (by rfl) rfl (by first | (apply Has.own; (repeat' (first | exact Take.here | apply Take.there)); done) | exact Has.ro (by assumption)) (by first | rfl | assumption)) rfl ?_
    refine m_yes0 rfl rfl rfl (fun _ _ => p_indexAddr rfl rfl (by decide) (fun _ => rfl)) rfl ?_
    refine m_yes0 rfl rfl rfl (fun _ _ => p_fieldAddr rfl) rfl ?_
    refine m_yes rfl rfl rfl (p_load (by rfl) rfl (by first | (apply Has.own; (repeat' (first | exact Take.here | apply Take.there)); done) | exact Has.ro (by assumption)) (by first | rfl | assumption)) rfl ?_
    refine m_yes0 rfl rfl rfl (fun _ _ => p_indexAddr rfl rfl (by decide) (fun _ => rfl)) rfl ?_
    first | refine m_yes rfl rfl rfl (p_loadO (by rfl) rfl (by first | (apply Has.own; (repeat' (first | exact Take.here | apply Take.there)); done) | exact Has.ro (by assumption)) (by rfl)) rfl ?_ | refine m_yes rfl rfl rfl (p_loadN (by rfl) rfl (by first | (apply Has.own; (repeat' (first | exact Take.here | apply Take.there)); done) | exact Has.ro (by assumption)) (by first | rfl | assumption)) rfl ?_
    refine m_or ?_ ?_
    · refine m_call (Hin := []) (Hr := ?hr6) (R := ?rr6) rfl (wantedY rfl rfl) rfl rfl rfl ?hin6 ?hc6 ?hk6
      case hin6 => repeat' (first | exact Cover.nil | exact Take.here | apply Cover.cons | apply Take.there)
      case hc6 => intro ρ' hρ hR; exact cU (small_im (Take.ro (A := Blk m1 (.cells [encI 2, encI 2].toArray 3 (0, 0))) (by repeat' (first | exact Take.here | apply Take.there)) hR).blk (Take.ro (A := Blk m2 (.cells [encI 2].toArray 3 (0, 0))) (by repeat' (first | exact Take.here | apply Take.there)) hR).blk (Take.ro (A := Blk m6 (.cells smallR.toArray 32 (0, 0))) (by repeat' (first | exact Take.here | apply Take.there)) hR).blk (Take.ro (A := Blk m8 (.cells [.string (strB [102]), .slice (some ⟨m1, 0, none⟩) 2 2, .slice (some ⟨m2, 0, none⟩) 1 1, .int .i64 3, .slice none 0 0, .slice (some ⟨m6, 0, none⟩) 3 3].toArray 45 (0, 0))) (by repeat' (first | exact Take.here | apply Take.there)) hR).blk)
      rintro _ _ ⟨a67, c67, rfl, rfl⟩
      refine ⟨.some (by repeat' (first | exact Cover.nil | exact Take.here | apply Cover.cons | apply Take.there)), ?_⟩
      refine m_effY rfl rfl rfl (e_bs (xs := [.const (.int .i64 0), .const (.int .i64 1)]) rfl rfl rfl (by rfl) (by rfl) rfl (by rfl)) rfl (fun _ _ => ?_)
      rintro ⟨b68, rfl, rfl⟩
      refine ⟨.some (by repeat' (first | exact Cover.nil | exact Take.here | apply Cover.cons | apply Take.there)), ?_⟩
      refine m_call (Hin := []) (Hr := ?hr7) (R := ?rr7) rfl (wantedY rfl rfl) rfl rfl rfl ?hin7 ?hc7 ?hk7
      case hin7 => repeat' (first | exact Cover.nil | exact Take.here | apply Cover.cons | apply Take.there)
      case hc7 => intro ρ' hρ hR; exact cN a67 (some ⟨b68, 0, none⟩) c67 (RSl.of_own (Take.ro (A := OwnSl 3 1 a67 2 c67 ([0, 1].map encI)) (by repeat' (first | exact Take.here | apply Take.there)) hR)) (RSl.of_blk (T := 3) (cs := [.int .i64 0, .int .i64 1]) (k := 2) (size := 1) (Take.ro (A := Blk b68 (.cells [.int .i64 0, .int .i64 1].toArray 3 (0, 0))) (by repeat' (first | exact Take.here | apply Take.there)) hR).blk (Nat.le_refl _))
      rintro _ _ ⟨rfl, rfl⟩
      refine ⟨.some (by repeat' (first | exact Cover.nil | exact Take.here | apply Cover.cons | apply Take.there)), ?_⟩
      first | refine m_float0 rfl (fun _ _ => p_pickt rfl rfl) rfl ?_ | refine m_float0 rfl (fun _ _ => p_pickf rfl rfl) rfl ?_
      refine m_float0 rfl (fun _ _ => p_move rfl) rfl ?_
      first | refine m_yes rfl rfl rfl (p_loadO (by rfl) rfl (by first | (apply Has.own; (repeat' (first | exact Take.here | apply Take.there)); done) | exact Has.ro (by assumption)) (by rfl)) rfl ?_ | refine m_yes rfl rfl rfl (p_loadN (by rfl) rfl (by first | (apply Has.own; (repeat' (first | exact Take.here | apply Take.there)); done) | exact Has.ro (by assumption)) (by first | rfl | assumption)) rfl ?_
      first | refine m_yes rfl rfl rfl (p_loadO (by rfl) rfl (by first | (apply Has.own; (repeat' (first | exact Take.here | apply Take.there)); done) | exact Has.ro (by assumption)) (by rfl)) rfl ?_ | refine m_yes rfl rfl rfl (p_loadN (by rfl) rfl (by first | (apply Has.own; (repeat' (first | exact Take.here | apply Take.there)); done) | exact Has.ro (by assumption)) (by first | rfl | assumption)) rfl ?_
      refine m_call (Hin := []) (Hr := ?hr8) (R := ?rr8) rfl (wantedY rfl rfl) rfl rfl rfl ?hin8 ?hc8 ?hk8
      case hin8 => repeat' (first | exact Cover.nil | exact Take.here | apply Cover.cons | apply Take.there)
      case hc8 => intro ρ' hρ hR; exact cS (small_im (Take.ro (A := Blk m1 (.cells [encI 2, encI 2].toArray 3 (0, 0))) (by repeat' (first | exact Take.here | apply Take.there)) hR).blk (Take.ro (A := Blk m2 (.cells [encI 2].toArray 3 (0, 0))) (by repeat' (first | exact Take.here | apply Take.there)) hR).blk (Take.ro (A := Blk m6 (.cells smallR.toArray 32 (0, 0))) (by repeat' (first | exact Take.here | apply Take.there)) hR).blk (Take.ro (A := Blk m8 (.cells [.string (strB [102]), .slice (some ⟨m1, 0, none⟩) 2 2, .slice (some ⟨m2, 0, none⟩) 1 1, .int .i64 3, .slice none 0 0, .slice (some ⟨m6, 0, none⟩) 3 3].toArray 45 (0, 0))) (by repeat' (first | exact Take.here | apply Take.there)) hR).blk)
      rintro _ _ ⟨rfl, rfl⟩
      refine ⟨.none (by kernel_rfl), ?_⟩
      first | refine m_float0 rfl (fun _ _ => p_pickt rfl rfl) rfl ?_ | refine m_float0 rfl (fun _ _ => p_pickf rfl rfl) rfl ?_
      refine m_float0 rfl (fun _ _ => p_assign rfl) rfl ?_
      refine m_nil ?_
      refine g_qn ?_
      exact g_joined () (by (repeat (first | exact trivial | refine ⟨by rfl, ?_⟩)); done) (by repeat' (first | exact Cover.nil | exact Take.here | apply Cover.cons | apply Take.there)) trivial
    refine m_effY rfl rfl rfl (e_bs (xs := [.const (.int .i64 0), .const (.int .i64 1)]) rfl rfl rfl (by rfl) (by rfl) rfl (by rfl)) rfl (fun _ _ => ?_)
    rintro ⟨b68, rfl, rfl⟩
    refine ⟨.some (by repeat' (first | exact Cover.nil | exact Take.here | apply Cover.cons | apply Take.there)), ?_⟩
    refine m_call (Hin := []) (Hr := ?hr9) (R := ?rr9) rfl (wantedY rfl rfl) rfl rfl rfl ?hin9 ?hc9 ?hk9
    case hin9 => repeat' (first | exact Cover.nil | exact Take.here | apply Cover.cons | apply Take.there)
    case hc9 => intro ρ' hρ hR; exact cU (small_im (Take.ro (A := Blk m1 (.cells [encI 2, encI 2].toArray 3 (0, 0))) (by repeat' (first | exact Take.here | apply Take.there)) hR).blk (Take.ro (A := Blk m2 (.cells [encI 2].toArray 3 (0, 0))) (by repeat' (first | exact Take.here | apply Take.there)) hR).blk (Take.ro (A := Blk m6 (.cells smallR.toArray 32 (0, 0))) (by repeat' (first | exact Take.here | apply Take.there)) hR).blk (Take.ro (A := Blk m8 (.cells [.string (strB [102]), .slice (some ⟨m1, 0, none⟩) 2 2, .slice (some ⟨m2, 0, none⟩) 1 1, .int .i64 3, .slice none 0 0, .slice (some ⟨m6, 0, none⟩) 3 3].toArray 45 (0, 0))) (by repeat' (first | exact Take.here | apply Take.there)) hR).blk)
    rintro _ _ ⟨a67, c67, rfl, rfl⟩
    refine ⟨.some (by repeat' (first | exact Cover.nil | exact Take.here | apply Cover.cons | apply Take.there)), ?_⟩
    refine m_call (Hin := []) (Hr := ?hr10) (R := ?rr10) rfl (wantedY rfl rfl) rfl rfl rfl ?hin10 ?hc10 ?hk10
    case hin10 => repeat' (first | exact Cover.nil | exact Take.here | apply Cover.cons | apply Take.there)
    case hc10 => intro ρ' hρ hR; exact cN a67 (some ⟨b68, 0, none⟩) c67 (RSl.of_own (Take.ro (A := OwnSl 3 1 a67 2 c67 ([0, 1].map encI)) (by repeat' (first | exact Take.here | apply Take.there)) hR)) (RSl.of_blk (T := 3) (cs := [.int .i64 0, .int .i64 1]) (k := 2) (size := 1) (Take.ro (A := Blk b68 (.cells [.int .i64 0, .int .i64 1].toArray 3 (0, 0))) (by repeat' (first | exact Take.here | apply Take.there)) hR).blk (Nat.le_refl _))
    rintro _ _ ⟨rfl, rfl⟩
    refine ⟨.some (by repeat' (first | exact Cover.nil | exact Take.here | apply Cover.cons | apply Take.there)), ?_⟩
    first | refine m_float0 rfl (fun _ _ => p_pickt rfl rfl) rfl ?_ | refine m_float0 rfl (fun _ _ => p_pickf rfl rfl) rfl ?_
    refine m_float0 rfl (fun _ _ => p_move rfl) rfl ?_
    first | refine m_yes rfl rfl rfl (p_loadO (by rfl) rfl (by first | (apply Has.own; (repeat' (first | exact Take.here | apply Take.there)); done) | exact Has.ro (by assumption)) (by rfl)) rfl ?_ | refine m_yes rfl rfl rfl (p_loadN (by rfl) rfl (by first | (apply Has.own; (repeat' (first | exact Take.here | apply Take.there)); done) | exact Has.ro (by assumption)) (by first | rfl | assumption)) rfl ?_
    first | refine m_yes rfl rfl rfl (p_loadO (by rfl) rfl (by first | (apply Has.own; (repeat' (first | exact Take.here | apply Take.there)); done) | exact Has.ro (by assumption)) (by rfl)) rfl ?_ | refine m_yes rfl rfl rfl (p_loadN (by rfl) rfl (by first | (apply Has.own; (repeat' (first | exact Take.here | apply Take.there)); done) | exact Has.ro (by assumption)) (by first | rfl | assumption)) rfl ?_
    refine m_call (Hin := []) (Hr := ?hr11) (R := ?rr11) rfl (wantedY rfl rfl) rfl rfl rfl ?hin11 ?hc11 ?hk11
    case hin11 => repeat' (first | exact Cover.nil | exact Take.here | apply Cover.cons | apply Take.there)
    case hc11 => intro ρ' hρ hR; exact cS (small_im (Take.ro (A := Blk m1 (.cells [encI 2, encI 2].toArray 3 (0, 0))) (by repeat' (first | exact Take.here | apply Take.there)) hR).blk (Take.ro (A := Blk m2 (.cells [encI 2].toArray 3 (0, 0))) (by repeat' (first | exact Take.here | apply Take.there)) hR).blk (Take.ro (A := Blk m6 (.cells smallR.toArray 32 (0, 0))) (by repeat' (first | exact Take.here | apply Take.there)) hR).blk (Take.ro (A := Blk m8 (.cells [.string (strB [102]), .slice (some ⟨m1, 0, none⟩) 2 2, .slice (some ⟨m2, 0, none⟩) 1 1, .int .i64 3, .slice none 0 0, .slice (some ⟨m6, 0, none⟩) 3 3].toArray 45 (0, 0))) (by repeat' (first | exact Take.here | apply Take.there)) hR).blk)
    rintro _ _ ⟨rfl, rfl⟩
    refine ⟨.none (by kernel_rfl), ?_⟩
    first | refine m_float0 rfl (fun _ _ => p_pickt rfl rfl) rfl ?_ | refine m_float0 rfl (fun _ _ => p_pickf rfl rfl) rfl ?_
    refine m_float0 rfl (fun _ _ => p_assign rfl) rfl ?_
    refine m_nil ?_
    refine g_qn ?_
    exact g_joined () (by (repeat (first | exact trivial | refine ⟨by rfl, ?_⟩)); done) (by repeat' (first | exact Cover.nil | exact Take.here | apply Cover.cons | apply Take.there)) trivial
  rintro _ -
  refine g_qt ?_
  refine g_ret ?_
  exact g_post (Ho := []) (rs := [.tmp 0]) rfl (.tmp rfl .nil) ⟨rfl, rfl⟩ .nil
end Go.Proofs.YtcnfcoojmbjdlaaGreatDoor
/- Chapter 26: the table of operations in a world that meets the row's list. Conditions: none. -/
namespace Go.Proofs.YtcnfcoojmbjdlaaGreatDoor
set_option maxRecDepth 8000
set_option linter.unusedVariables false
set_option linter.unusedSimpArgs false
set_option linter.unusedSectionVars false
open Go Go.Z Go.Z.Asm Go.RowKit

def opD {H : Type} (r : List UInt8 × List Nat × Nat) : DataW H := .agg [.lit (.string r.1), Lib.tabData .i64 (r.2.1.map fun k : Nat => (k : Int)), .lit (.int .i64 r.2.2)]
def encO (r : List UInt8 × List Nat × Nat) : List Value := .string (strB r.1) :: (r.2.1.map fun k : Nat => Value.int .i64 k) ++ [.int .i64 r.2.2]
theorem ops_laid : (Rows.laid_synchrony_asm_operations : DataW Unit) = .agg (opT.map opD) := rfl
theorem opsC_enc : opsC = opT.flatMap encO := rfl
theorem op_fields : ∃ f0 f1 f2 : Field, Tryz.prog.underlying 62 = some (.struct #[f0, f1, f2]) ∧ f0.type = 9 ∧ f0.offset = 0 ∧ f1.type = 60 ∧ f1.offset = 1 ∧ f2.type = 3 ∧ f2.offset = 5 := ⟨_, _, _, Tryz.underlying62, rfl, rfl, rfl, rfl, rfl, rfl⟩
theorem op_chunk {W : World} {fuel : Nat} {c : List Value} {r : List UInt8 × List Nat × Nat} {p : List MemPlace} (h : DataW.trod (H := Unit) (fun _ => ()) Tryz.prog W 0 (fun _ => true) false fuel 62 c = some (opD r, p)) : c = encO r := by
  obtain ⟨f0, f1, f2, hu, t0, o0, t1, o1, t2, o2⟩ := op_fields
  have c6 : Tryz.prog.cellsOf 62 = 6 := by kernel_rfl
  have c1 : Tryz.prog.cellsOf 9 = 1 := by kernel_rfl
  have c4 : Tryz.prog.cellsOf 60 = 4 := by kernel_rfl
  have ci : Tryz.prog.cellsOf 3 = 1 := by kernel_rfl
  have us : Tryz.prog.underlying 9 = some .string := Tryz.underlying9
  have ui : Tryz.prog.underlying 3 = some (.int .i64) := Tryz.underlying3
  have ua : Tryz.prog.underlying 60 = some (.array 4 3) := Tryz.underlying60
  cases fuel with
  | zero => simp [DataW.trod] at h
  | succ fuel =>
    simp only [DataW.trod, hu, c6] at h
    split at h
    · rename_i hl
      simp only [List.mapM_cons, List.mapM_nil, Option.bind_eq_bind, Option.pure_def, Option.map_eq_some_iff, Option.bind_eq_some_iff, Option.some.injEq, t0, o0, t1, o1, t2, o2, c1, c4, ci] at h
      obtain ⟨xs, ⟨x0, h0, ys, ⟨x1, h1, zs, ⟨x2, h2, us', hn, rfl⟩, rfl⟩, rfl⟩, he⟩ := h
      subst hn
      have hd := congrArg Prod.fst he
      simp only [List.map_cons, List.map_nil, opD, DataW.agg.injEq, List.cons.injEq, and_true] at hd
      obtain ⟨d0, d1, d2⟩ := hd
      obtain ⟨x0a, x0b⟩ := x0
      obtain ⟨x1a, x1b⟩ := x1
      obtain ⟨x2a, x2b⟩ := x2
      dsimp only at d0 d1 d2
      subst d0; subst d1; subst d2
      have e1 := Lib.cells_of_tab ua ui ci c4 h1
      obtain ⟨z, e2, e3, _⟩ := DataW.trod_int ui h2
      match c, hl with
      | [v0, v1, v2, v3, v4, v5], _ =>
        have e0 : v0 = .string (strB r.1) := by
          cases fuel with
          | zero => simp [DataW.trod] at h0
          | succ f =>
            simp only [DataW.trod, us, List.drop_zero, List.take_succ_cons, List.take_zero] at h0
            cases v0 with
            | string s =>
              dsimp only at h0
              split at h0
              · have := congrArg (Option.map Prod.fst) h0
                simp at this
                unfold strB
                rw [← this]
              · cases h0
            | _ => simp at h0
        have e1' : [v1, v2, v3, v4] = r.2.1.map fun k : Nat => Value.int .i64 k := by
          have := e1
          rw [List.map_map] at this
          exact this
        have e2' : v5 = .int .i64 z := by
          have : [v5] = [Value.int .i64 z] := e2
          exact (List.cons.inj this).1
        have e3' : z = (r.2.2 : Int) := by
          have := congrArg Prod.fst e3
          simp at this
          exact this.symm
        subst e0; subst e2'; subst e3'
        unfold encO
        rw [← e1']; rfl
    · cases h
theorem ops_of {W : World} {rest : List (String × DataW Unit)} (h : laidMet Tryz.prog (("synchrony/asm.operations", Rows.laid_synchrony_asm_operations) :: rest) W) : OpsK (Old W) := by
  obtain ⟨ps, ⟨g, t, cs, fuel, p, q, hg, hty, hvar, hd, _, _⟩, _, hrow⟩ := h
  have hg' : Tryz.prog.globalNamed "synchrony/asm.operations" = some 0 := by kernel_rfl
  obtain rfl := Option.some.inj (hg'.symm.trans hg)
  have hty' : (Tryz.prog.globals[0]?).map (·.type) = some 93 := by kernel_rfl
  obtain rfl := Option.some.inj (hty'.symm.trans hty)
  have ua : Tryz.prog.underlying 93 = some (.array 11 62) := Tryz.underlying93
  have c6 : Tryz.prog.cellsOf 62 = 6 := by kernel_rfl
  have c66 : Tryz.prog.cellsOf 93 = 66 := by kernel_rfl
  obtain ⟨xs, m, -, hx, hl, hxl, hch⟩ := DataW.trod_array ua hd
  rw [c66] at hl
  simp only [c6] at hch
  have hxs : xs.map (·.1) = opT.map opD := by
    have := congrArg Prod.fst hx
    rw [ops_laid] at this
    simpa using this.symm
  have hcs : cs.toList = opsC := by
    have key : ∀ i, i < 11 → (cs.toList.drop (i * 6)).take 6 = encO (opT.getD i ([], [], 0)) := fun i hi => by
      have h1 := hch i hi
      have hi2 : i < opT.length := hi
      have h2 : (xs[i]?).map (·.1) = some (opD opT[i]) := by
        rw [← List.getElem?_map, hxs, List.getElem?_map, List.getElem?_eq_getElem hi2]; rfl
      cases hxi : xs[i]? with
      | none => rw [hxi] at h2; cases h2
      | some y =>
        rw [hxi] at h1 h2
        obtain ⟨y1, y2⟩ := y
        simp only [Option.map_some, Option.some.injEq] at h2
        subst h2
        rw [op_chunk h1, List.getD_eq_getElem?_getD, List.getElem?_eq_getElem hi2]; rfl
    have len6 : ∀ i, i < 11 → (encO (opT.getD i ([], [], 0))).length = 6 := by decide
    apply List.ext_getElem?
    intro i
    by_cases hi : i < 66
    · have h1 := key (i / 6) (by omega)
      have h2 : cs.toList[i]? = ((cs.toList.drop (i / 6 * 6)).take 6)[i % 6]? := by
        rw [List.getElem?_take, if_pos (Nat.mod_lt _ (by decide)), List.getElem?_drop]
        congr 1; omega
      rw [h2, h1]
      have all : ∀ i, i < 66 → (encO (opT.getD (i / 6) ([], [], 0)))[i % 6]? = opsC[i]? := by
        intro i hi
        have e1 : opsC[i]? = ((opsC.drop (i / 6 * 6)).take 6)[i % 6]? := by
          rw [List.getElem?_take, if_pos (Nat.mod_lt _ (by decide)), List.getElem?_drop]
          congr 1; omega
        rw [e1]
        have hq : i / 6 < 11 := by omega
        generalize i / 6 = q at hq
        congr 1
        match q, hq with
        | 0, _ => rfl
        | 1, _ => rfl
        | 2, _ => rfl
        | 3, _ => rfl
        | 4, _ => rfl
        | 5, _ => rfl
        | 6, _ => rfl
        | 7, _ => rfl
        | 8, _ => rfl
        | 9, _ => rfl
        | 10, _ => rfl
        | q + 11, h => omega
      exact all i hi
    · rw [List.getElem?_eq_none (by omega), List.getElem?_eq_none (by show 66 ≤ i; omega)]
  unfold World.var? at hvar
  rw [hg'] at hvar
  simp only [Option.bind_some] at hvar
  cases hb : W.heap[0]? with
  | none => rw [hb] at hvar; cases hvar
  | some o =>
    rw [hb] at hvar
    cases o with
    | cells c T fz =>
      refine ⟨T, fz, ?_⟩
      show W.heap[0]? = _
      have : c = cs := by simpa using hvar
      rw [hb, this, ← hcs]
    | _ => simp at hvar
end Go.Proofs.YtcnfcoojmbjdlaaGreatDoor
/- What the rows list of the library's variables: a world that has it; what a walk knows of it. Conditions: none. -/
namespace Go.Proofs.YtcnfcoojmbjdlaaGreatDoor
set_option maxRecDepth 8000
set_option linter.unusedVariables false
set_option linter.unusedSimpArgs false
set_option linter.unusedSectionVars false
open Go Go.Z Go.Z.Asm Go.RowKit

def synS : ByteArray := ⟨#[105, 110, 118, 97, 108, 105, 100, 32, 115, 121, 110, 116, 97, 120]⟩
def rngS : ByteArray := ⟨#[118, 97, 108, 117, 101, 32, 111, 117, 116, 32, 111, 102, 32, 114, 97, 110, 103, 101]⟩
/-- the cells of a listed array of numbers -/
def cellsD : DataW Unit → Array Value
  | .agg l => (l.flatMap fun d => match d with
    | .lit (.int k n) => [Value.int k n]
    | .agg m => m.map fun d => match d with | .lit (.int k n) => Value.int k n | _ => .int .i64 0
    | _ => []).toArray
  | _ => #[]
noncomputable def low : Nat := (World.holding Tryz.prog default ⟨#[], #[], []⟩).heap.size
noncomputable def laidWorld (os : Os) : World :=
  let w0 := World.holding Tryz.prog os ⟨#[.cells #[.string synS] 182, .cells #[.string rngS] 182], #[], []⟩
  let put (h : Array Obj) (g : Nat) (cs : Array Value) : Array Obj := h.modify g fun
    | .cells _ t frozen => .cells cs t frozen
    | o => o
  { w0 with heap := put (put (put (put (put (put (put (put w0.heap 0 opsC.toArray) 5 #[.iface 180 (.pointer (some ⟨low, 0, none⟩))]) 6 #[.iface 180 (.pointer (some ⟨low + 1, 0, none⟩))])
    2 (cellsD Rows.laid_internal_strconv_uint64pow10)) 7 (cellsD Rows.laid_math_bits_deBruijn32tab)) 8 (cellsD Rows.laid_math_bits_deBruijn64tab)) 4 (cellsD Rows.laid_unicode_utf8_acceptRanges)) 3 (cellsD Rows.laid_unicode_utf8_first) }
set_option maxRecDepth 1000000 in
theorem laidWorld_met (os : Os) (args : Array Value) : laidMet Tryz.prog Rows.asmSameRow.laid ((laidWorld os).forCall (fun _ _ => 0) ⟨#[], args, []⟩).memory :=
  laidMet_of_run' 10 (by kernel_rfl) (by kernel_rfl)

theorem knows_var {n : String} {W : World} {cs : Array Value} (h : W.var? Tryz.prog n = some cs) : Knows (Old W) fun w => w.var? Tryz.prog n = some cs := by
  intro w hw
  unfold World.var? at h ⊢
  cases hg : Tryz.prog.globalNamed n with
  | none => rw [hg] at h; cases h
  | some g =>
    rw [hg] at h
    simp only [Option.bind_some] at h ⊢
    cases hb : W.heap[g]? with
    | none => rw [hb] at h; cases h
    | some o => rw [hw g o hb]; rw [hb] at h; exact h
theorem knows_cell {W : World} {g : Nat} {v : Value} (h : W.cell? ⟨g, 0, none⟩ = some v) : Knows (Old W) fun w => w.cell? ⟨g, 0, none⟩ = some v := by
  intro w hw
  unfold World.cell? at h ⊢
  cases hb : W.heap[g]? with
  | none => simp [hb] at h
  | some o => have := hw g o hb; simp only [hb, this] at h ⊢; exact h
theorem starErr : "*" ++ "errors.errorString" = "*errors.errorString" := by decide
theorem rowErr (u : TypeId) (h : Tryz.prog.typeName? 3 u = some "*errors.errorString") : u = 180 := 
  typeName_ptr_named (nm := "errors.errorString") (by rw [starErr]; kernel_rfl) (by kernel_rfl) (by decide) u (by rw [starErr]; exact h)
theorem libA_of {W : World} (hL : laidMet Tryz.prog Rows.asmSameRow.laid W) (hS : W.ShapedOpen Tryz.prog) : LibA (Old W) := by
  have h2 := laidMet.tail (laidMet.tail hL)
  have ht := Lib.tabIs_of_head (name := "internal/strconv.uint64pow10") (k := .u64) (zs := Lib.pow10Tab) (g := 2) (t := 164) (e := 122) (n := 20) (by kernel_rfl) (by kernel_rfl) Tryz.underlying164 Tryz.underlying122 (by kernel_rfl) (by kernel_rfl) h2
  have h3 := laidMet.tail h2
  obtain ⟨a1, s1, hv1, -, -, -⟩ := laid_sentinel (laidMet.tail h3) (g := 6) (by kernel_rfl) (ti := 127) (by kernel_rfl) Tryz.underlying127 rowErr Tryz.underlying180 Tryz.underlying182 rfl rfl Tryz.underlying9 (by kernel_rfl) (by kernel_rfl)
  obtain ⟨a0, s0, hv0, -, -, -⟩ := laid_sentinel (laidMet.tail (laidMet.tail h3)) (g := 5) (by kernel_rfl) (ti := 127) (by kernel_rfl) Tryz.underlying127 rowErr Tryz.underlying180 Tryz.underlying182 rfl rfl Tryz.underlying9 (by kernel_rfl) (by kernel_rfl)
  have ho := ops_of (laidMet.tail (laidMet.tail (laidMet.tail h3)))
  obtain ⟨m, hm⟩ := cell_of_shapedOpen_int (g := 1) (t := 3) (zero := #[.int .i64 0]) (k := .i64) hS (of_decide_eq_true (by kernel_rfl)) (by kernel_rfl) rfl (by kernel_rfl) (by kernel_rfl) Tryz.underlying3
  exact ⟨ho, knows_var ht, ⟨_, _, knows_var hv0⟩, ⟨_, _, knows_var hv1⟩, m, knows_cell hm⟩
end Go.Proofs.YtcnfcoojmbjdlaaGreatDoor
namespace Go.Z
set_option maxRecDepth 8000
set_option linter.unusedVariables false
set_option linter.unusedSimpArgs false
set_option linter.unusedSectionVars false
open Go
variable {H : Type} {enc : TypeId × Value → H}
/-- the wrap of a row with listed variables, the world's shape kept -/
theorem wrap_shaped {a : Assume} {C : Checked} {os : Os} {f : FuncId} {fn : Func} {s : ChangeSpec} {conds : List PathCond} {apart fresh handsOn again : Bool} {X : World → Array Value → Prop}
    (hX : ∀ (w w' : World) (args : Array Value), w.heap = w'.heap → X w args → X w' args)
    (own : ownKnob C.prog.godebug = none) (started : os.Started) (noInit : C.prog.inits.idxOf? f = none) (hfn : C.prog.funcs[f]? = some fn)
    (witness : ∃ (w : World) (tape : Tape) (i : Input), w.os = os ∧ (w.forCall tape i).Shaped C.prog ∧ i.vars = [] ∧ Input.okWide C.prog (w.forCall tape i) .any w.heap.size f i ∧
      ((s.pre enc C.prog fn conds apart (w.forCall tape i).memory i.args ∧ X (w.forCall tape i).memory i.args) ∧ sizedMet enc C.prog fn (OpenSpec.ofChange s) apart (w.forCall tape i).memory i.args) ∧ a.holds C.prog (lone (Frame.enter C.prog f i.args .normal) [] (w.forCall tape i)))
    (contract : ∀ (W : World) (base : Nat) (args : Array Value) (ds gs : List (DataW H)) (before : List MemPlace),
      (∀ (j : Nat) t v, fn.params[j]? = some t → args[j]? = some v → Value.okWide C.prog W .any base t v) →
      DataW.Whole enc C.prog fn.params.toList s.vars apart W args.toList ds gs before →
      conds.all (PathCond.test C.prog ⟨fn.params.toList, ds, s.plain.varTypes C.prog, gs⟩) = true →
      (DataW.weightsEach C.prog (fn.params.toList ++ s.plain.varTypes C.prog) (ds ++ gs)).all (· ≤ reachBytes) = true → X W args → W.ShapedOpen C.prog →
      a.holds C.prog (lone (Frame.enter C.prog f args .normal) [] W) →
      Calls C.prog f args W fun e W' => ∃ v, e = .returned v ∧ s.post enc C.prog fn apart fresh handsOn again W args v W') :
    ReturnsInHanded a C os f .any (fun w args => (s.pre enc C.prog fn conds apart w args ∧ X w args) ∧ sizedMet enc C.prog fn (OpenSpec.ofChange s) apart w args) (s.post enc C.prog fn apart fresh handsOn again) := by
  refine returnsInHanded_of_calls own started noInit witness ?_
  intro w tape i _ hsh _ hok hpre hholds
  obtain ⟨_, _, _, fn', hfn', _, _, _, _, hval⟩ := hok
  have e : fn' = fn := Option.some.inj (hfn'.symm.trans hfn)
  subst e
  obtain ⟨⟨⟨ds, gs, before, hw, hc⟩, hx⟩, hz⟩ := hpre
  have hw' := DataW.Whole.of_heap (w' := w.forCall tape i) (by rfl) hw
  refine (contract (w.forCall tape i) w.heap.size i.args ds gs before hval hw' hc (hz.weights hw) (hX _ _ _ (by rfl) hx) hsh hholds).mono fun e W' ⟨v, he, hp⟩ => ?_
  subst he
  exact ChangeSpec.post_blind hp
end Go.Z
/- Chapter 26: images, instructions as arguments. Conditions: none. -/
namespace Go.Z.Asm
set_option maxRecDepth 8000
set_option linter.unusedVariables false
set_option linter.unusedSimpArgs false
set_option linter.unusedSectionVars false
open Go Go.Z Go.Lib
theorem flat_at {k : Nat} : ∀ {xss : List (List Value)}, (∀ c ∈ xss, c.length = k) → ∀ i (hi : i < xss.length), (xss.flatten.drop (i * k)).take k = xss[i] ∧ i * k + k ≤ xss.flatten.length
  | c :: r, h, 0, _ => by
    have hc := h c List.mem_cons_self
    rw [Nat.zero_mul, List.drop_zero, List.flatten_cons]
    exact ⟨by rw [List.take_append_of_le_length (by omega), List.take_of_length_le (by omega)]; rfl, by rw [List.length_append]; omega⟩
  | c :: r, h, i + 1, hi => by
    have hc := h c List.mem_cons_self
    obtain ⟨h1, h2⟩ := flat_at (fun c hc => h c (List.mem_cons_of_mem _ hc)) i (by simpa using hi)
    have e : (i + 1) * k = c.length + i * k := by rw [hc, Nat.add_mul]; omega
    rw [List.flatten_cons, e, List.drop_append, List.drop_of_length_le (by omega), List.nil_append, Nat.add_sub_cancel_left]
    exact ⟨h1, by rw [List.length_append]; omega⟩
theorem rts_of {ρ : Nat → Obj → Prop} {ra : Option Addr} {xss : List (List Value)} (h6 : ∀ c ∈ xss, c.length = 6) (hr : RSl ρ 6 ra xss.length xss.flatten) {rts : List Rt} (hl : rts.length = xss.length) (hx : ∀ k (h1 : k < xss.length) (h2 : k < rts.length), RtR ρ xss[k] rts[k]) : RtsR ρ ra rts := fun h0 => by
  obtain ⟨_, b, off, cs, T, fz, hb⟩ := hr
  obtain ⟨r1, r2, r3⟩ := hb (by omega)
  refine ⟨b, off, cs, T, fz, r1, r2, fun k hk => ?_⟩
  have hk' : k < xss.length := by omega
  obtain ⟨e1, e2⟩ := flat_at h6 k hk'
  refine ⟨xss[k], hx k hk' hk, by rw [sub_of r3 (by decide) e2, e1], fun j v hj => ?_⟩
  have hj6 : j < 6 := by
    have := (List.getElem?_eq_some_iff.1 hj).1
    rw [h6 _ (List.getElem_mem hk')] at this; exact this
  rw [Nat.add_assoc]
  refine r3 _ _ ?_
  rw [← e1, List.getElem?_take, if_pos hj6, List.getElem?_drop] at hj
  exact hj
theorem choose_rows {α β : Type} {q : α → β → Prop} : ∀ {l : List α}, (∀ c ∈ l, ∃ x, q c x) → ∃ r : List β, r.length = l.length ∧ ∀ k (h1 : k < l.length) (h2 : k < r.length), q l[k] r[k]
  | [], _ => ⟨[], rfl, fun k h => absurd h (Nat.not_lt_zero k)⟩
  | c :: l, h => by
    obtain ⟨x, hx⟩ := h c List.mem_cons_self
    obtain ⟨r, hl, hr⟩ := choose_rows fun c hc => h c (List.mem_cons_of_mem _ hc)
    refine ⟨x :: r, by simp [hl], fun k h1 h2 => ?_⟩
    match k with
    | 0 => exact hx
    | k + 1 => exact hr k (by simpa using h1) (by simpa using h2)
end Go.Z.Asm
namespace Go.Proofs.YtcnfcoojmbjdlaaGreatDoor
set_option maxRecDepth 8000
set_option linter.unusedVariables false
set_option linter.unusedSimpArgs false
set_option linter.unusedSectionVars false
open Go Go.Z Go.Z.Asm
theorem rdw_int1 {H : Type} {enc : TypeId × Value → H} {W : World} {c : List Value} (h : Rdw enc Tryz.prog W 3 c) : ∃ x : Int, c = [encI x] ∧ I64 x := by
  obtain ⟨x, e, w⟩ := rd_int Tryz.underlying3 h.rdx
  exact ⟨x, e, wf_i64 w⟩
theorem rdw_ints {H : Type} {enc : TypeId × Value → H} {W : World} {c : List Value} (h : Rdw enc Tryz.prog W 22 c) : ∃ (a : Option Addr) (cap : Nat) (l : List Int), c = [.slice a l.length cap] ∧ RSl (Old W) 1 a l.length (l.map encI) ∧ l.length ≤ 17592186044416 ∧ ∀ x ∈ l, I64 x := by
  obtain ⟨a, cap, xss, h1, h2, h3, h4, h5, h6⟩ := rdw_slice (size := 1) Tryz.underlying22 (by kernel_rfl) (by decide) h
  obtain ⟨l, rfl, hl⟩ := rows_with I64 (fun x => [encI x]) (xss := xss) fun c hc => rdw_int1 (h4 c hc).2
  rw [show Tryz.prog.bytesOf 3 = 8 by kernel_rfl] at h6
  rw [List.length_map] at h1 h2 h5
  refine ⟨a, cap, l, h1, ?_, by omega, hl⟩
  rw [← List.flatMap_def, map_flat] at h5
  exact h5
theorem rdw_ins {H : Type} {enc : TypeId × Value → H} {W : World} {c : List Value} (h : Rdw enc Tryz.prog W 32 c) : ∃ i : Ins, c = encIns i ∧ I64 i.1 ∧ I64 i.2.1 ∧ I64 i.2.2.1 ∧ I64 i.2.2.2.1 ∧ I64 i.2.2.2.2 := by
  obtain ⟨hl, hf⟩ := rdw_struct Tryz.underlying32 h
  have h0 := hf 0 _ rfl
  have h1 := hf 1 _ rfl
  have h2 := hf 2 _ rfl
  have h3 := hf 3 _ rfl
  have h4 := hf 4 _ rfl
  have hl2 : c.length = 5 := hl
  match c, hl2 with
  | [u0, u1, u2, u3, u4], _ =>
    obtain ⟨a0, e0, i0⟩ := rdw_int1 (show Rdw enc Tryz.prog W 3 [u0] from h0)
    obtain ⟨a1, e1, i1⟩ := rdw_int1 (show Rdw enc Tryz.prog W 3 [u1] from h1)
    obtain ⟨a2, e2, i2⟩ := rdw_int1 (show Rdw enc Tryz.prog W 3 [u2] from h2)
    obtain ⟨a3, e3, i3⟩ := rdw_int1 (show Rdw enc Tryz.prog W 3 [u3] from h3)
    obtain ⟨a4, e4, i4⟩ := rdw_int1 (show Rdw enc Tryz.prog W 3 [u4] from h4)
    cases e0; cases e1; cases e2; cases e3; cases e4
    exact ⟨(a0, a1, a2, a3, a4), rfl, i0, i1, i2, i3, i4⟩
theorem rdw_code {H : Type} {enc : TypeId × Value → H} {W : World} {c : List Value} (h : Rdw enc Tryz.prog W 43 c) : ∃ (a : Option Addr) (cap : Nat) (l : List Ins), c = [.slice a l.length cap] ∧ RSl (Old W) 5 a l.length (l.flatMap encIns) ∧ l.length ≤ 17592186044416 ∧ ∀ i ∈ l, I64 i.1 ∧ I64 i.2.1 ∧ I64 i.2.2.1 ∧ I64 i.2.2.2.1 ∧ I64 i.2.2.2.2 := by
  obtain ⟨a, cap, xss, h1, h2, h3, h4, h5, h6⟩ := rdw_slice (size := 5) Tryz.underlying43 (by kernel_rfl) (by decide) h
  obtain ⟨l, rfl, hl⟩ := rows_with (fun i : Ins => I64 i.1 ∧ I64 i.2.1 ∧ I64 i.2.2.1 ∧ I64 i.2.2.2.1 ∧ I64 i.2.2.2.2) encIns (xss := xss) fun c hc => rdw_ins (h4 c hc).2
  rw [show Tryz.prog.bytesOf 32 = 40 by kernel_rfl] at h6
  rw [List.length_map] at h1 h2 h5
  refine ⟨a, cap, l, h1, ?_, by omega, hl⟩
  rw [List.flatMap_def]
  exact h5
theorem rdw_rt {H : Type} {enc : TypeId × Value → H} {W : World} {c : List Value} (h : Rdw enc Tryz.prog W 45 c) : ∃ x : Rt, RtR (Old W) c x ∧ RtOk x := by
  obtain ⟨hl, hf⟩ := rdw_struct Tryz.underlying45 h
  have h0 := hf 0 _ rfl
  have h1 := hf 1 _ rfl
  have h2 := hf 2 _ rfl
  have h3 := hf 3 _ rfl
  have h4 := hf 4 _ rfl
  have h5 := hf 5 _ rfl
  have hl2 : c.length = 6 := hl
  match c, hl2 with
  | [u0, u1, u2, u3, u4, u5], _ =>
    obtain ⟨s, e0, i0⟩ := rd_string Tryz.underlying9 (show Rdw enc Tryz.prog W 9 [u0] from h0).rdx
    obtain ⟨a1, c1, l1, e1, r1, n1, i1⟩ := rdw_ints (show Rdw enc Tryz.prog W 22 [u1] from h1)
    obtain ⟨a2, c2, l2, e2, r2, n2, i2⟩ := rdw_ints (show Rdw enc Tryz.prog W 22 [u2] from h2)
    obtain ⟨a3, e3, i3⟩ := rdw_int1 (show Rdw enc Tryz.prog W 3 [u3] from h3)
    obtain ⟨a4, c4, l4, e4, r4, n4, i4⟩ := rdw_ints (show Rdw enc Tryz.prog W 22 [u4] from h4)
    obtain ⟨a5, c5, l5, e5, r5, n5, i5⟩ := rdw_code (show Rdw enc Tryz.prog W 43 [u5] from h5)
    cases e0; cases e1; cases e2; cases e3; cases e4; cases e5
    have hm : maxLen = 9223372036854775807 := rfl
    exact ⟨(s.data.toList, l1, l2, a3, l4, l5), ⟨a1, c1, a2, c2, a4, c4, a5, c5, rfl, r1, r2, r4, r5⟩, ⟨by have hs : s.data.toList.length = s.size := rfl; dsimp only; omega, n1, n2, n4, n5, i1, i2, i3, i4, i5⟩⟩
theorem rd_image {H : Type} {enc : TypeId × Value → H} {W : World} {c : List Value} (h : Rdw enc Tryz.prog W 25 c) : ∃ (ea ra : Option Addr) (ec rc : Nat) (im : Im), c = [.slice ea im.1.length ec, .slice ra im.2.length rc] ∧ ImI (Old W) ea ra im := by
  obtain ⟨hl, hf⟩ := rdw_struct Tryz.underlying25 h
  have h0 := hf 0 _ rfl
  have h1 := hf 1 _ rfl
  have hl2 : c.length = 2 := hl
  match c, hl2 with
  | [u0, u1], _ =>
    obtain ⟨a0, c0, l0, e0, r0, n0, i0⟩ := rdw_ints (show Rdw enc Tryz.prog W 22 [u0] from h0)
    obtain ⟨a, cap, xss, k1, k2, k3, k4, k5, k6⟩ := rdw_slice (size := 6) Tryz.underlying23 (by kernel_rfl) (by decide) (show Rdw enc Tryz.prog W 23 [u1] from h1)
    rw [show Tryz.prog.bytesOf 45 = 120 by kernel_rfl] at k6
    obtain ⟨rts, hlr, hr⟩ := choose_rows (q := fun c x => RtR (Old W) c x ∧ RtOk x) (l := xss) fun c hc => rdw_rt (k4 c hc).2
    cases e0; cases k1
    refine ⟨a0, a, c0, cap, (l0, rts), by rw [← hlr], r0, rts_of (fun c hc => (k4 c hc).1) k5 hlr fun k h1 h2 => (hr k h1 h2).1, n0, by dsimp only; omega, i0, fun x hx => ?_⟩
    obtain ⟨k, hk, rfl⟩ := List.mem_iff_getElem.1 hx
    exact (hr k (by rw [← hlr]; exact hk) hk).2
end Go.Proofs.YtcnfcoojmbjdlaaGreatDoor
/- Chapter 26: the document's longest way; the statement on it. Conditions: what the library's variables hold (LibA). -/
namespace Go.Proofs.YtcnfcoojmbjdlaaGreatDoor
set_option maxRecDepth 8000
set_option linter.unusedVariables false
set_option linter.unusedSimpArgs false
set_option linter.unusedSectionVars false
open Go Go.Z Go.Z.Asm Go.RowKit

theorem rworst_ok {ρ : Nat → Obj → Prop} {ea ra : Option Addr} {ec rc : Nat} {im : Im} (h : ImI ρ ea ra im) :
    Con Tryz.prog ρ 22 #[.agg #[.slice ea im.1.length ec, .slice ra im.2.length rc]] [] (fun v H => v = .tuple #[.int .i64 (worstP im).1, .int .i64 (worstP im).2] ∧ H = []) := by
  have hrl := h.rl
  have hfar : farN = 1099511627776 := rfl
  refine con_intro Tryz.func22 Tryz.call22 rfl Tryz.ntmps22 rfl (L := [(0, _)]) rfl fun w hh => ?_
  refine g_seq ?_
  refine g_region ?_
  refine g_eff (e_box rfl (by rfl)) rfl (fun _ _ => ?_)
  rintro ⟨b1, rfl, rfl⟩
  refine g_pure (p_assign rfl) rfl ?_
  refine g_pure (p_assign rfl) rfl ?_
  refine g_nil ?_
  refine g_qt ?_
  refine g_seq ?_
  refine g_seq ?_
  refine g_region ?_
  first | refine g_pure (p_loadO (by rfl) rfl (by first | (apply Has.own; (repeat' (first | exact Take.here | apply Take.there)); done) | exact Has.ro (by assumption)) (by rfl)) rfl ?_ | refine g_pure (p_loadN (by rfl) rfl (by first | (apply Has.own; (repeat' (first | exact Take.here | apply Take.there)); done) | exact Has.ro (by assumption)) (by first | rfl | assumption)) rfl ?_
  refine g_call (Hin := []) (Hr := ?hr1) (R := ?rr1) rfl rfl rfl ?hin1 ?hc1 ?hk1
  case hin1 => repeat' (first | exact Cover.nil | exact Take.here | apply Cover.cons | apply Take.there)
  case hc1 => intro ρ' hρ hR; exact rcheck_ok (ec := ec) (rc := rc) (h.mono hρ)
  rintro _ _ ⟨rfl, rfl⟩
  refine g_pure (p_assign rfl) rfl ?_
  refine g_nil ?_
  refine g_qt ?_
  refine g_seq ?_
  refine g_region ?_
  refine g_pure (p_move rfl) rfl ?_
  refine g_pure (p_neq rfl rfl) rfl ?_
  refine g_nil ?_
  refine g_qt ?_
  refine g_ifnd rfl (fun h1 => ?_) (fun h1 => ?_)
  · refine g_seq ?_
    refine g_region ?_
    refine g_pure (p_move rfl) rfl ?_
    refine g_pure (p_assign rfl) rfl ?_
    refine g_pure (p_assign rfl) rfl ?_
    refine g_nil ?_
    refine g_qt ?_
    refine g_ret ?_
    refine g_qt_ret ?_
    exact g_post (rs := [.tmp 2, .tmp 3]) rfl (.tmp rfl (.tmp rfl .nil)) ⟨by unfold worstP; rw [if_neg h1]; rfl, rfl⟩ (by repeat' (first | exact Cover.nil | exact Take.here | apply Cover.cons | apply Take.there))
  · have hE : checkP im = 0 := by omega
    have hW : worstP im = if farN < (worstL im.2).getLastD 0 then (0, 3) else ((worstL im.2).getLastD 0, 0) := by unfold worstP; rw [if_pos hE]
    rw [hW]
    obtain ⟨g1, g2, g3, g4⟩ := checkP_zero hE
    refine g_skip ?_
    refine g_qt ?_
    refine g_seq ?_
    refine g_region ?_
    refine g_pure (p_assign rfl) rfl ?_
    refine g_nil ?_
    refine g_qt ?_
    refine g_seq ?_
    refine g_region ?_
    refine g_pure (p_assign rfl) rfl ?_
    refine g_nil ?_
    refine g_qt ?_
    refine g_seq ?_
    refine g_seq ?_
    refine g_region ?_
    refine g_pure (p_assign rfl) rfl ?_
    refine g_nil ?_
    refine g_qt ?_
    refine g_block ?_
    refine g_ownnil (e := 3) (size := 1) ?_
    refine g_loop (fun q : Nat × Option Addr × Nat => [(1, .pointer (some ⟨b1, 0, none⟩)), (5, .int .i64 1099511627776), (6, .slice q.2.1 (worstL (im.2.take q.1)).length q.2.2), (7, .int .i64 q.1)])
      (fun q => [OwnSl 3 1 q.2.1 (worstL (im.2.take q.1)).length q.2.2 ((worstL (im.2.take q.1)).map encI), Blk b1 (.cells [.slice ea im.1.length ec, .slice ra im.2.length rc].toArray 25 (0, 0))]) (fun q => q.1 ≤ im.2.length) (fun q => im.2.length - q.1) (0, none, 0) (Nat.zero_le _) (by (repeat (first | exact trivial | refine ⟨by rfl, ?_⟩)); done) (by repeat' (first | exact Cover.nil | exact Take.here | apply Cover.cons | apply Take.there)) ?_
    rintro ⟨k, oa, oc⟩ hk1
    dsimp only at hk1 ⊢
    refine g_seq ?_
    refine g_seq ?_
    refine g_region ?_
    refine g_pure (p_move rfl) rfl ?_
    refine g_pure (p_fieldAddr rfl) rfl ?_
    refine g_pure (p_load (by rfl) rfl (by first | (apply Has.own; (repeat' (first | exact Take.here | apply Take.there)); done) | exact Has.ro (by assumption)) (by first | rfl | assumption)) rfl ?_
    refine g_pure (p_len (by rfl) rfl) rfl ?_
    refine g_pure (p_lss rfl rfl) rfl ?_
    refine g_nil ?_
    refine g_qt ?_
    refine g_ifd rfl (fun q => ?_) (fun q => ?_)
    · have hkl : k < im.2.length := by omega
      have hst := worstL_step im.2 hkl
      have hwl := worstL_len im.2 k hk1
      have hwi := worstL_in im.2 k hk1
      obtain ⟨b, off, cs, T, fz, r1, r2, r3⟩ := h.rs (by omega)
      obtain ⟨row, q1, q2, q3⟩ := r3 k hkl
      have hgd := g4 k hkl
      generalize im.2[k] = x0 at q1 hgd hst
      generalize worstL (im.2.take k) = W at hst hwl hwi ⊢
      have hcode := good_code hgd (fun _ _ => trivial)
      obtain ⟨ia, ic, oa', oc', na, nc, ca, cc, e0, hi, ho, hn, hc⟩ := q1
      subst e0
      have hcl := hgd.cl
      have hca : cs[off + k * 6 + 5]? = some (.slice ca x0.2.2.2.2.2.length cc) := q3 5 _ rfl
      clear q2 q3
      generalize x0.2.2.2.2.2 = code at hc hcl hcode hst hca
      obtain ⟨bc', oc2, cs2, T2, fz2, hcr⟩ := RSl.row encIns_len hc
      refine g_skip ?_
      refine g_qt ?_
      refine g_seq ?_
      refine g_block ?_
      refine g_seq ?_
      refine g_region ?_
      refine g_pure (p_fieldAddr rfl) rfl ?_
      refine g_pure (p_load (by rfl) rfl (by first | (apply Has.own; (repeat' (first | exact Take.here | apply Take.there)); done) | exact Has.ro (by assumption)) (by first | rfl | assumption)) rfl ?_
      refine g_pure (p_move rfl) rfl ?_
      refine g_pure (p_indexAddr rfl rfl (by omega) (fun _ => r1)) rfl ?_
      refine g_pure (p_fieldAddr rfl) rfl ?_
      refine g_pure (p_load (by rfl) rfl (Has.ro r2) (by rw [Int.toNat_natCast]; exact hca)) rfl ?_
      refine g_pure (p_assign rfl) rfl ?_
      refine g_nil ?_
      refine g_qt ?_
      refine g_seq ?_
      refine g_region ?_
      refine g_pure (p_move rfl) rfl ?_
      refine g_pure (p_len (by rfl) rfl) rfl ?_
      first | refine g_pure (p_addi rfl rfl (by omega)) rfl ?_ | refine g_pure (p_add rfl rfl) rfl ?_
      refine g_eff (e_make (by rfl) (by rfl) rfl rfl (by omega) (by first | omega | (dsimp only; omega)) (by omega)) rfl (fun _ _ => ?_)
      rintro ⟨b35, rfl, rfl⟩
      refine g_pure (p_assign rfl) rfl ?_
      refine g_nil ?_
      refine g_qt ?_
      refine g_seq ?_
      refine g_seq ?_
      refine g_region ?_
      refine g_pure (p_move rfl) rfl ?_
      refine g_pure (p_len (by rfl) rfl) rfl ?_
      first | refine g_pure (p_subi rfl rfl (by omega)) rfl ?_ | refine g_pure (p_sub rfl rfl) rfl ?_
      refine g_pure (p_assign rfl) rfl ?_
      refine g_nil ?_
      refine g_qt ?_
      refine g_block ?_
      have hz : List.replicate ((code.length : Int) + 1).toNat (Value.int IntKind.i64 0) = cellsM code.length (longL W code.length (code.drop code.length)) := by
        rw [List.drop_length, show ((code.length : Int) + 1).toNat = code.length + 1 by omega, List.replicate_succ']; rfl
      rw [hz]
      refine g_loop (fun q : Nat × Int => [(1, .pointer (some ⟨b1, 0, none⟩)), (5, .int .i64 1099511627776), (6, .slice oa W.length oc), (7, .int .i64 k), (8, .slice ca code.length cc), (9, .slice (some ⟨b35, 0, none⟩) ((code.length : Int) + 1).toNat ((code.length : Int) + 1).toNat), (10, .int .i64 q.2)])
        (fun q => [Blk b35 (.cells (cellsM q.1 (longL W q.1 (code.drop q.1))).toArray 3 (0, 0)), OwnSl 3 1 oa W.length oc (W.map encI), Blk b1 (.cells [.slice ea im.1.length ec, .slice ra im.2.length rc].toArray 25 (0, 0))])
        (fun q => q.1 ≤ code.length ∧ q.2 = (q.1 : Int) - 1) (fun q => q.1) (code.length, (code.length : Int) - 1) ⟨Nat.le_refl _, rfl⟩ (by (repeat (first | exact trivial | refine ⟨by rfl, ?_⟩)); done) (by repeat' (first | exact Cover.nil | exact Take.here | apply Cover.cons | apply Take.there)) ?_
      rintro ⟨m, z⟩ ⟨hm, hz2⟩
      dsimp only at hm hz2 ⊢
      refine g_seq ?_
      refine g_seq ?_
      refine g_region ?_
      refine g_pure (p_move rfl) rfl ?_
      refine g_pure (p_geq rfl rfl) rfl ?_
      refine g_nil ?_
      refine g_qt ?_
      refine g_ifd rfl (fun s => ?_) (fun s => ?_)
      · obtain ⟨j, rfl⟩ : ∃ j, m = j + 1 := ⟨m - 1, by omega⟩
        have hzj : z = (j : Int) := by omega
        subst hzj
        have hjl : j < code.length := by omega
        obtain ⟨c1, c2, c3⟩ := hcr (by omega)
        have c4 := (c3 j hjl).1 (by decide)
        obtain ⟨w1, w2⟩ := hcode j hjl
        have hLl := longL_len W (code.drop (j + 1)) (j + 1)
        rw [List.length_drop] at hLl
        have hLi := longL_in hwi (code.drop (j + 1)) (j + 1)
        have hcons : longL W j (code.drop j) = min (nextL W (longL W (j + 1) (code.drop (j + 1))) j code[j] + 1) 1099511627777 :: longL W (j + 1) (code.drop (j + 1)) := by
          rw [List.drop_eq_getElem_cons hjl, longL_cons]; rfl
        generalize code[j] = ii at c4 w1 w2 hcons
        generalize longL W (j + 1) (code.drop (j + 1)) = L at hLl hLi hcons ⊢
        have hnx := nextL_in hwi hLi j ii
        have hset : ∀ v : Int, (cellsM (j + 1) L).set (0 + (j : Int).toNat * 1) (.int .i64 v) = cellsM j (v :: L) := fun v => by rw [show 0 + (j : Int).toNat * 1 = j by omega]; exact cellsM_set v
        have hcl2 := cellsM_len (j + 1) L
        have hd0 : L.getD 0 0 = L.headD 0 := by cases L <;> rfl
        have hh1 := headD_in hLi (by decide)
        have hB : ii.1 = 7 ∨ ii.1 = 8 → (cellsM (j + 1) L)[0 + ii.2.2.1.toNat * 1]? = some (.int .i64 (L.getD (ii.2.2.1 - j - 1).toNat 0)) := fun h => by
          have := w1 h
          rw [cellsM_at (m := j + 1) (i := 0 + ii.2.2.1.toNat * 1) (by omega) (by omega)]
          congr 3; omega
        have hA : ii.1 = 9 → (W.map encI)[ii.2.1.toNat]? = some (.int .i64 (W.getD ii.2.1.toNat 0)) := fun h => by
          have hlt := w2 h
          rw [List.getElem?_map, List.getElem?_eq_getElem (by omega), List.getD_eq_getElem?_getD, List.getElem?_eq_getElem (by omega)]; rfl
        have h31 : (cellsM (j + 1) L)[0 + ((j : Int) + 1).toNat * 1]? = some (.int .i64 (L.headD 0)) := by
          rw [cellsM_at (m := j + 1) (i := 0 + ((j : Int) + 1).toNat * 1) (by omega) (by omega), ← hd0]; congr 3; omega
        have hbb := getD_in hwi (by decide) ii.2.1.toNat
        have hgb := getD_in hLi (by decide) (ii.2.2.1 - j - 1).toNat
        have hN : nextL W L j ii = if ii.1 = 7 then L.getD (ii.2.2.1 - j - 1).toNat 0 else if ii.1 = 8 then max (L.headD 0) (L.getD (ii.2.2.1 - j - 1).toNat 0) else if ii.1 = 9 then L.headD 0 + W.getD ii.2.1.toNat 0 else L.headD 0 := rfl
        generalize nextL W L j ii = nx at hN hcons hnx
        generalize L.getD (ii.2.2.1 - j - 1).toNat 0 = gB at hB hN hgb
        generalize L.headD 0 = hd at h31 hN hh1
        generalize W.getD ii.2.1.toNat 0 = wA at hA hN hbb
        refine g_skip ?_
        refine g_qt ?_
        refine g_seq ?_
        refine g_block ?_
        refine g_seq ?_
        refine g_region ?_
        refine g_pure (p_move rfl) rfl ?_
        refine g_pure (p_move rfl) rfl ?_
        refine g_pure (p_indexAddr rfl rfl (by omega) (fun _ => c1)) rfl ?_
        refine g_pure (p_loadN (by rfl) rfl (Has.ro c2) (by rw [Int.toNat_natCast]; exact c4)) rfl ?_
        refine g_eff (e_alloc (by rfl)) rfl (fun _ _ => ?_)
        rintro ⟨b11, rfl, rfl⟩
        first | refine g_eff0 (e_storeO rfl rfl (by rfl) (by rfl) (by rfl) (by repeat' (first | exact Take.here | apply Take.there)) (by rfl)) (fun _ _ => ?_) | refine g_eff0 (e_storeN rfl rfl (by rfl) (by rfl) (by rfl) (by repeat' (first | exact Take.here | apply Take.there)) (by simp)) (fun _ _ => ?_)
        rintro rfl
        refine g_nil ?_
        refine g_qt ?_
        refine g_seq ?_
        refine g_region ?_
        refine g_pure (p_move rfl) rfl ?_
        refine g_pure (p_move rfl) rfl ?_
        first | refine g_pure (p_addi rfl rfl (by omega)) rfl ?_ | refine g_pure (p_add rfl rfl) rfl ?_
        refine g_pure (p_indexAddr rfl rfl (by omega) (fun _ => rfl)) rfl ?_
        refine g_pure (p_load (v := .int .i64 hd) (by rfl) rfl (Has.own (by repeat' (first | exact Take.here | apply Take.there))) h31) rfl ?_
        refine g_pure (p_assign rfl) rfl ?_
        refine g_nil ?_
        refine g_qt ?_
        refine g_seq ?_
        refine g_seq ?_
        refine g_region ?_
        refine g_pure (p_fieldAddr rfl) rfl ?_
        refine g_pure (p_load (by rfl) rfl (by first | (apply Has.own; (repeat' (first | exact Take.here | apply Take.there)); done) | exact Has.ro (by assumption)) (by first | rfl | assumption)) rfl ?_
        refine g_pure (p_eql rfl rfl) rfl ?_
        refine g_nil ?_
        refine g_qt ?_
        refine g_join (fun _ : Unit => [(1, .pointer (some ⟨b1, 0, none⟩)), (5, .int .i64 1099511627776), (6, .slice oa W.length oc), (7, .int .i64 k), (8, .slice ca code.length cc), (9, .slice (some ⟨b35, 0, none⟩) ((code.length : Int) + 1).toNat ((code.length : Int) + 1).toNat), (10, .int .i64 j), (11, .pointer (some ⟨b11, 0, none⟩)), (12, .int .i64 (if ii.1 = 7 then gB else hd))])
          (fun _ => [Blk b11 (.cells [.int .i64 ii.1, .int .i64 ii.2.1, .int .i64 ii.2.2.1, .int .i64 ii.2.2.2.1, .int .i64 ii.2.2.2.2].toArray 32 (0, 0)), Blk b35 (.cells (cellsM (j + 1) L).toArray 3 (0, 0)), OwnSl 3 1 oa W.length oc (W.map encI), Blk b1 (.cells [.slice ea im.1.length ec, .slice ra im.2.length rc].toArray 25 (0, 0))]) (fun _ => True) ?_ ?_
        · refine g_ifd rfl (fun h7 => ?_) (fun h7 => ?_)
          · have := w1 (.inl h7)
            refine g_region ?_
            refine g_pure (p_move rfl) rfl ?_
            refine g_pure (p_fieldAddr rfl) rfl ?_
            refine g_pure (p_load (by rfl) rfl (by first | (apply Has.own; (repeat' (first | exact Take.here | apply Take.there)); done) | exact Has.ro (by assumption)) (by first | rfl | assumption)) rfl ?_
            refine g_pure (p_indexAddr rfl rfl (by omega) (fun _ => rfl)) rfl ?_
            refine g_pure (p_load (by rfl) rfl (Has.own (by repeat' (first | exact Take.here | apply Take.there))) (hB (.inl h7))) rfl ?_
            refine g_pure (p_assign rfl) rfl ?_
            refine g_nil ?_
            refine g_qn ?_
            rw [if_pos h7]
            exact g_joined () (by (repeat (first | exact trivial | refine ⟨by rfl, ?_⟩)); done) (by repeat' (first | exact Cover.nil | exact Take.here | apply Cover.cons | apply Take.there)) trivial
          · refine g_skip ?_
            refine g_qn ?_
            rw [if_neg h7]
            exact g_joined () (by (repeat (first | exact trivial | refine ⟨by rfl, ?_⟩)); done) (by repeat' (first | exact Cover.nil | exact Take.here | apply Cover.cons | apply Take.there)) trivial
        rintro _ -
        refine g_qt ?_
        have hv7 : 0 ≤ (if ii.1 = 7 then gB else hd) ∧ (if ii.1 = 7 then gB else hd) ≤ farN + 1 := by split <;> assumption
        generalize hv : (if ii.1 = 7 then gB else hd) = v7 at hv7
        refine g_seq ?_
        refine g_seq ?_
        refine g_region ?_
        refine g_pure (p_fieldAddr rfl) rfl ?_
        refine g_pure (p_load (by rfl) rfl (by first | (apply Has.own; (repeat' (first | exact Take.here | apply Take.there)); done) | exact Has.ro (by assumption)) (by first | rfl | assumption)) rfl ?_
        refine g_pure (p_eql rfl rfl) rfl ?_
        refine g_nil ?_
        refine g_qt ?_
        refine g_join (fun _ : Unit => [(1, .pointer (some ⟨b1, 0, none⟩)), (5, .int .i64 1099511627776), (6, .slice oa W.length oc), (7, .int .i64 k), (8, .slice ca code.length cc), (9, .slice (some ⟨b35, 0, none⟩) ((code.length : Int) + 1).toNat ((code.length : Int) + 1).toNat), (10, .int .i64 j), (11, .pointer (some ⟨b11, 0, none⟩)), (12, .int .i64 (if ii.1 = 8 then max v7 gB else v7))])
          (fun _ => [Blk b11 (.cells [.int .i64 ii.1, .int .i64 ii.2.1, .int .i64 ii.2.2.1, .int .i64 ii.2.2.2.1, .int .i64 ii.2.2.2.2].toArray 32 (0, 0)), Blk b35 (.cells (cellsM (j + 1) L).toArray 3 (0, 0)), OwnSl 3 1 oa W.length oc (W.map encI), Blk b1 (.cells [.slice ea im.1.length ec, .slice ra im.2.length rc].toArray 25 (0, 0))]) (fun _ => True) ?_ ?_
        · refine g_ifd rfl (fun h8 => ?_) (fun h8 => ?_)
          · have := w1 (.inr h8)
            refine g_region ?_
            refine g_pure (p_move rfl) rfl ?_
            refine g_pure (p_move rfl) rfl ?_
            refine g_pure (p_fieldAddr rfl) rfl ?_
            refine g_pure (p_load (by rfl) rfl (by first | (apply Has.own; (repeat' (first | exact Take.here | apply Take.there)); done) | exact Has.ro (by assumption)) (by first | rfl | assumption)) rfl ?_
            refine g_pure (p_indexAddr rfl rfl (by omega) (fun _ => rfl)) rfl ?_
            refine g_pure (p_load (by rfl) rfl (Has.own (by repeat' (first | exact Take.here | apply Take.there))) (hB (.inr h8))) rfl ?_
            refine g_pure (p_max rfl rfl) rfl ?_
            refine g_pure (p_assign rfl) rfl ?_
            refine g_nil ?_
            refine g_qn ?_
            rw [if_pos h8]
            exact g_joined () (by (repeat (first | exact trivial | refine ⟨by rfl, ?_⟩)); done) (by repeat' (first | exact Cover.nil | exact Take.here | apply Cover.cons | apply Take.there)) trivial
          · refine g_skip ?_
            refine g_qn ?_
            rw [if_neg h8]
            exact g_joined () (by (repeat (first | exact trivial | refine ⟨by rfl, ?_⟩)); done) (by repeat' (first | exact Cover.nil | exact Take.here | apply Cover.cons | apply Take.there)) trivial
        rintro _ -
        refine g_qt ?_
        have hv8 : 0 ≤ (if ii.1 = 8 then max v7 gB else v7) ∧ (if ii.1 = 8 then max v7 gB else v7) ≤ farN + 1 := by split <;> omega
        generalize hv' : (if ii.1 = 8 then max v7 gB else v7) = v8 at hv8
        refine g_seq ?_
        refine g_seq ?_
        refine g_region ?_
        refine g_pure (p_fieldAddr rfl) rfl ?_
        refine g_pure (p_load (by rfl) rfl (by first | (apply Has.own; (repeat' (first | exact Take.here | apply Take.there)); done) | exact Has.ro (by assumption)) (by first | rfl | assumption)) rfl ?_
        refine g_pure (p_eql rfl rfl) rfl ?_
        refine g_nil ?_
        refine g_qt ?_
        refine g_join (fun _ : Unit => [(1, .pointer (some ⟨b1, 0, none⟩)), (5, .int .i64 1099511627776), (6, .slice oa W.length oc), (7, .int .i64 k), (8, .slice ca code.length cc), (9, .slice (some ⟨b35, 0, none⟩) ((code.length : Int) + 1).toNat ((code.length : Int) + 1).toNat), (10, .int .i64 j), (12, .int .i64 nx)])
          (fun _ => [Blk b35 (.cells (cellsM (j + 1) L).toArray 3 (0, 0)), OwnSl 3 1 oa W.length oc (W.map encI), Blk b1 (.cells [.slice ea im.1.length ec, .slice ra im.2.length rc].toArray 25 (0, 0))]) (fun _ => True) ?_ ?_
        · refine g_ifd rfl (fun h9 => ?_) (fun h9 => ?_)
          · have hlt := w2 h9
            have hnx9 : nx = v8 + wA := by
              rw [hN, if_neg (by omega), if_neg (by omega), if_pos h9, ← hv', if_neg (by omega), ← hv, if_neg (by omega)]
            refine g_own (e := 3) (size := 1) (a1 := oa) (k := W.length) (cap := oc) (xs := W.map encI) (by repeat' (first | exact Take.here | apply Take.there)) (fun _ h _ _ => absurd h (by omega)) ?_
            rintro g cur rfl hc1 hc2 hclx htk hxl
            refine g_region ?_
            refine g_pure (p_move rfl) rfl ?_
            refine g_pure (p_move rfl) rfl ?_
            refine g_pure (p_fieldAddr rfl) rfl ?_
            refine g_pure (p_load (by rfl) rfl (by first | (apply Has.own; (repeat' (first | exact Take.here | apply Take.there)); done) | exact Has.ro (by assumption)) (by first | rfl | assumption)) rfl ?_
            refine g_pure (p_indexAddr rfl rfl (by omega) (fun _ => rfl)) rfl ?_
            refine g_pure (p_load (v := .int .i64 wA) (by rfl) rfl (Has.own (by repeat' (first | exact Take.here | apply Take.there))) (own_at (k := ii.2.1.toNat) htk (by show 0 + ii.2.1.toNat * 1 = _; omega) (hA h9))) rfl ?_
            refine g_pure (p_addi rfl rfl (by omega)) rfl ?_
            refine g_pure (p_assign rfl) rfl ?_
            refine g_nil ?_
            refine g_qn ?_
            refine g_fold (e := 3) (size := 1) (g := g) (k := W.length) (cap := oc) (cur := cur) (xs := W.map encI) (by repeat' (first | exact Take.here | apply Take.there)) hc1 hc2 hclx htk ?_
            rw [hnx9]
            exact g_joined () (by (repeat (first | exact trivial | refine ⟨by rfl, ?_⟩)); done) (by repeat' (first | exact Cover.nil | exact Take.here | apply Cover.cons | apply Take.there)) trivial
          · have hnx9 : nx = v8 := by
              rw [hN, ← hv', ← hv]
              by_cases h7 : ii.1 = 7
              · rw [if_pos h7, if_neg (by omega), if_pos h7]
              · rw [if_neg h7, if_neg h7, if_neg h9]
            refine g_skip ?_
            refine g_qn ?_
            rw [hnx9]
            exact g_joined () (by (repeat (first | exact trivial | refine ⟨by rfl, ?_⟩)); done) (by repeat' (first | exact Cover.nil | exact Take.here | apply Cover.cons | apply Take.there)) trivial
        rintro _ -
        refine g_qt ?_
        refine g_region ?_
        refine g_pure (p_move rfl) rfl ?_
        refine g_pure (p_move rfl) rfl ?_
        refine g_pure (p_move rfl) rfl ?_
        refine g_pure (p_addi rfl rfl (by omega)) rfl ?_
        refine g_pure (p_move rfl) rfl ?_
        first | refine g_pure (p_addi rfl rfl (by omega)) rfl ?_ | refine g_pure (p_add rfl rfl) rfl ?_
        refine g_pure (p_min rfl rfl) rfl ?_
        refine g_pure (p_indexAddr rfl rfl (by omega) (fun _ => rfl)) rfl ?_
        first | refine g_eff0 (e_storeO rfl rfl (by rfl) (by rfl) (by rfl) (by repeat' (first | exact Take.here | apply Take.there)) (by rfl)) (fun _ _ => ?_) | refine g_eff0 (e_store1 (by rfl) rfl rfl rfl (by repeat' (first | exact Take.here | apply Take.there)) (by first | decide | (simp <;> omega) | omega)) (fun _ _ => ?_)
        rintro rfl
        refine g_nil ?_
        refine g_qb ?_
        refine g_qt ?_
        refine g_region ?_
        refine g_pure (p_move rfl) rfl ?_
        first | refine g_pure (p_subi rfl rfl (by omega)) rfl ?_ | refine g_pure (p_sub rfl rfl) rfl ?_
        refine g_pure (p_assign rfl) rfl ?_
        refine g_nil ?_
        refine g_qn ?_
        rw [hset]
        rw [show (1099511627776 : Int) + 1 = 1099511627777 from rfl, ← hcons]
        exact g_next (j, (j : Int) - 1) (by (repeat (first | exact trivial | refine ⟨by rfl, ?_⟩)); done) (by repeat' (first | exact Cover.nil | exact Take.here | apply Cover.cons | apply Take.there)) ⟨by dsimp only; omega, rfl⟩ (by dsimp only; omega)
      · have hm0 : m = 0 := by omega
        subst hm0
        have hhd : (cellsM 0 (longL W 0 (code.drop 0)))[0 + (0 : Int).toNat * 1]? = some (.int .i64 ((longL W 0 code).headD 0)) := by
          rw [List.drop_zero, cellsM_at (by omega) (by rw [longL_len]; omega)]
          have hd0 : (longL W 0 code).getD 0 0 = (longL W 0 code).headD 0 := by cases longL W 0 code <;> rfl
          rw [← hd0]; rfl
        refine g_exit ?_
        refine g_qt_exit ?_
        refine g_qn_exit ?_
        refine g_qb_exit ?_
        refine g_qt ?_
        refine g_region ?_
        refine g_pure (p_move rfl) rfl ?_
        refine g_pure (p_move rfl) rfl ?_
        refine g_pure (p_indexAddr rfl rfl (by omega) (fun _ => rfl)) rfl ?_
        refine g_pure (p_load (by rfl) rfl (Has.own (by repeat' (first | exact Take.here | apply Take.there))) hhd) rfl ?_
        refine g_eff (e_bs (xs := [.tmp 91]) rfl rfl rfl (by rfl) (by rfl) rfl (by rfl)) rfl (fun _ _ => ?_)
        rintro ⟨b92, rfl, rfl⟩
        refine g_eff (e_appendO (by rfl) (by rfl) rfl rfl (by first | (apply Has.own; (repeat' (first | exact Take.here | apply Take.there)); done) | exact Has.ro (by assumption)) (by rfl) (by rfl) (by repeat' (first | exact Take.here | apply Take.there)) (by omega) (by first | omega | (dsimp only; omega) | (simp <;> omega)) (by omega)) rfl (fun _ _ => ?_)
        rintro ⟨a93, c93, rfl, rfl⟩
        refine g_pure (p_assign rfl) rfl ?_
        refine g_nil ?_
        refine g_qb ?_
        refine g_qt ?_
        refine g_region ?_
        refine g_pure (p_move rfl) rfl ?_
        first | refine g_pure (p_addi rfl rfl (by omega)) rfl ?_ | refine g_pure (p_add rfl rfl) rfl ?_
        refine g_pure (p_assign rfl) rfl ?_
        refine g_nil ?_
        refine g_qn ?_
        rw [show W.map encI ++ [Value.int IntKind.i64 ((longL W 0 code).headD 0)] = (worstL (im.2.take (k + 1))).map encI by rw [hst, List.map_append]; rfl, show W.length + 1 = (worstL (im.2.take (k + 1))).length by rw [hst, List.length_append]; rfl]
        exact g_next (k + 1, a93, c93) (by (repeat (first | exact trivial | refine ⟨by rfl, ?_⟩)); done) (by repeat' (first | exact Cover.nil | exact Take.here | apply Cover.cons | apply Take.there)) hkl (by dsimp only; omega)
    · have hke : k = im.2.length := by omega
      subst hke
      have hwl := worstL_len im.2 im.2.length (Nat.le_refl _)
      have hwi := worstL_in im.2 im.2.length (Nat.le_refl _)
      rw [List.take_length] at hwl hwi ⊢
      have hlast : ((worstL im.2).map encI)[((worstL im.2).length - 1)]? = some (.int .i64 ((worstL im.2).getLastD 0)) := by
        rw [List.getElem?_map, ← List.getLast?_eq_getElem?, List.getLastD_eq_getLast?]
        cases e : (worstL im.2).getLast? with
        | none =>
          rw [List.getLast?_eq_none_iff] at e
          rw [e] at hwl; simp at hwl; omega
        | some v => rfl
      generalize worstL im.2 = W at hwl hlast ⊢
      refine g_own (e := 3) (size := 1) (a1 := oa) (k := W.length) (cap := oc) (xs := W.map encI) (by repeat' (first | exact Take.here | apply Take.there)) (fun _ h _ _ => absurd h (by omega)) ?_
      rintro g cur rfl hc1 hc2 hcl htk hxl
      refine g_exit ?_
      refine g_qt_exit ?_
      refine g_qn_exit ?_
      refine g_qb_exit ?_
      refine g_qt ?_
      refine g_seq ?_
      refine g_region ?_
      refine g_pure (p_move rfl) rfl ?_
      refine g_pure (p_move rfl) rfl ?_
      refine g_pure (p_len (by rfl) rfl) rfl ?_
      first | refine g_pure (p_subi rfl rfl (by omega)) rfl ?_ | refine g_pure (p_sub rfl rfl) rfl ?_
      refine g_pure (p_indexAddr rfl rfl (by omega) (fun _ => rfl)) rfl ?_
      refine g_pure (p_load (v := .int .i64 (W.getLastD 0)) (by rfl) rfl (Has.own (by repeat' (first | exact Take.here | apply Take.there))) (own_at (k := W.length - 1) htk (by show 0 + ((W.length : Int) - 1).toNat * 1 = _; omega) hlast)) rfl ?_
      refine g_pure (p_assign rfl) rfl ?_
      refine g_nil ?_
      refine g_qt ?_
      refine g_seq ?_
      refine g_seq ?_
      refine g_region ?_
      refine g_pure (p_move rfl) rfl ?_
      refine g_pure (p_move rfl) rfl ?_
      refine g_pure (p_gtr rfl rfl) rfl ?_
      refine g_nil ?_
      refine g_qt ?_
      refine g_ifd rfl (fun h2 => ?_) (fun h2 => ?_)
      · refine g_seq ?_
        refine g_region ?_
        refine g_pure (p_assign rfl) rfl ?_
        refine g_pure (p_assign rfl) rfl ?_
        refine g_nil ?_
        refine g_qt ?_
        refine g_ret ?_
        refine g_qt_ret ?_
        exact g_post (rs := [.tmp 2, .tmp 3]) rfl (.tmp rfl (.tmp rfl .nil)) ⟨by rw [if_pos (show farN < _ from h2)]; rfl, rfl⟩ (by repeat' (first | exact Cover.nil | exact Take.here | apply Cover.cons | apply Take.there))
      · refine g_skip ?_
        refine g_qt ?_
        refine g_seq ?_
        refine g_region ?_
        refine g_pure (p_move rfl) rfl ?_
        refine g_pure (p_assign rfl) rfl ?_
        refine g_pure (p_assign rfl) rfl ?_
        refine g_nil ?_
        refine g_qt ?_
        refine g_ret ?_
        exact g_post (rs := [.tmp 2, .tmp 3]) rfl (.tmp rfl (.tmp rfl .nil)) ⟨by rw [if_neg (show ¬ farN < _ from h2)]; rfl, rfl⟩ (by repeat' (first | exact Cover.nil | exact Take.here | apply Cover.cons | apply Take.there))

theorem aworst_ok {ρ : Nat → Obj → Prop} (hk : LibA ρ) {ea ra : Option Addr} {ec rc : Nat} {im : Im} (h : ImI ρ ea ra im) :
    Con Tryz.prog ρ 6 #[.agg #[.slice ea im.1.length ec, .slice ra im.2.length rc]] [] (fun v _ => v = .bool true) := by
  refine con_intro Tryz.func6 Tryz.call6 rfl Tryz.ntmps6 rfl (L := [(0, _)]) rfl fun w hh => ?_
  refine g_seq ?_
  refine g_region ?_
  refine g_eff (e_box rfl (by rfl)) rfl (fun _ _ => ?_)
  rintro ⟨b1, rfl, rfl⟩
  refine g_pure (p_assign rfl) rfl ?_
  refine g_nil ?_
  refine g_qt ?_
  refine g_seq ?_
  refine g_seq ?_
  refine g_region ?_
  first | refine g_pure (p_loadO (by rfl) rfl (by first | (apply Has.own; (repeat' (first | exact Take.here | apply Take.there)); done) | exact Has.ro (by assumption)) (by rfl)) rfl ?_ | refine g_pure (p_loadN (by rfl) rfl (by first | (apply Has.own; (repeat' (first | exact Take.here | apply Take.there)); done) | exact Has.ro (by assumption)) (by first | rfl | assumption)) rfl ?_
  refine g_call (Hin := []) (Hr := ?hr2) (R := ?rr2) rfl rfl rfl ?hin2 ?hc2 ?hk2
  case hin2 => repeat' (first | exact Cover.nil | exact Take.here | apply Cover.cons | apply Take.there)
  case hc2 => intro ρ' hρ hR; exact heavy_ok (ec := ec) (rc := rc) (h.mono hρ)
  rintro _ _ ⟨hb8, rfl, rfl⟩
  refine g_nil ?_
  refine g_qt ?_
  refine g_ifL rfl (fun h1 => ?_) (fun h1 => ?_)
  · refine g_seq ?_
    refine g_region ?_
    refine g_call (Hin := []) (Hr := ?hr3) (R := ?rr3) rfl rfl rfl ?hin3 ?hc3 ?hk3
    case hin3 => repeat' (first | exact Cover.nil | exact Take.here | apply Cover.cons | apply Take.there)
    case hc3 => intro ρ' hρ hR; exact lives_ok (hk.mono hρ)
    rintro _ _ ⟨rfl, rfl⟩
    refine g_pure (p_assign rfl) rfl ?_
    refine g_nil ?_
    refine g_qt ?_
    refine g_ret ?_
    refine g_qt_ret ?_
    exact g_post (rs := [.tmp 2]) rfl (.tmp rfl .nil) rfl (by repeat' (first | exact Cover.nil | exact Take.here | apply Cover.cons | apply Take.there))
  · refine g_skip ?_
    refine g_qt ?_
    refine g_seq ?_
    refine g_region ?_
    first | refine g_pure (p_loadO (by rfl) rfl (by first | (apply Has.own; (repeat' (first | exact Take.here | apply Take.there)); done) | exact Has.ro (by assumption)) (by rfl)) rfl ?_ | refine g_pure (p_loadN (by rfl) rfl (by first | (apply Has.own; (repeat' (first | exact Take.here | apply Take.there)); done) | exact Has.ro (by assumption)) (by first | rfl | assumption)) rfl ?_
    refine g_call (Hin := []) (Hr := ?hr4) (R := ?rr4) rfl rfl rfl ?hin4 ?hc4 ?hk4
    case hin4 => repeat' (first | exact Cover.nil | exact Take.here | apply Cover.cons | apply Take.there)
    case hc4 => intro ρ' hρ hR; exact worstA_ok (ec := ec) (rc := rc) (hk.mono hρ).ops (h.mono hρ)
    rintro _ _ ⟨rfl, rfl⟩
    refine g_pure (p_move rfl) rfl ?_
    refine g_pure (p_extract rfl rfl) rfl ?_
    refine g_pure (p_extract rfl rfl) rfl ?_
    refine g_pure (p_assign rfl) rfl ?_
    refine g_pure (p_assign rfl) rfl ?_
    refine g_nil ?_
    refine g_qt ?_
    refine g_seq ?_
    refine g_region ?_
    first | refine g_pure (p_loadO (by rfl) rfl (by first | (apply Has.own; (repeat' (first | exact Take.here | apply Take.there)); done) | exact Has.ro (by assumption)) (by rfl)) rfl ?_ | refine g_pure (p_loadN (by rfl) rfl (by first | (apply Has.own; (repeat' (first | exact Take.here | apply Take.there)); done) | exact Has.ro (by assumption)) (by first | rfl | assumption)) rfl ?_
    refine g_call (Hin := []) (Hr := ?hr5) (R := ?rr5) rfl rfl rfl ?hin5 ?hc5 ?hk5
    case hin5 => repeat' (first | exact Cover.nil | exact Take.here | apply Cover.cons | apply Take.there)
    case hc5 => intro ρ' hρ hR; exact rworst_ok (ec := ec) (rc := rc) (h.mono hρ)
    rintro _ _ ⟨rfl, rfl⟩
    refine g_pure (p_move rfl) rfl ?_
    refine g_pure (p_extract rfl rfl) rfl ?_
    refine g_pure (p_extract rfl rfl) rfl ?_
    refine g_pure (p_assign rfl) rfl ?_
    refine g_pure (p_assign rfl) rfl ?_
    refine g_nil ?_
    refine g_qt ?_
    refine g_seq ?_
    refine g_region ?_
    refine g_pure (p_move rfl) rfl ?_
    refine g_pure (p_move rfl) rfl ?_
    refine g_pure (p_eqlT rfl rfl rfl) rfl ?_
    refine g_pure (p_move rfl) rfl ?_
    refine g_yes rfl rfl ?_
    refine g_pure (p_move rfl) rfl ?_
    refine g_yes rfl rfl ?_
    refine g_pure (p_move rfl) rfl ?_
    refine g_yes rfl rfl ?_
    refine g_pure (p_eqlT rfl rfl rfl) rfl ?_
    first | refine g_pure (p_pickt rfl rfl) rfl ?_ | refine g_pure (p_pickf rfl rfl) rfl ?_
    refine g_pure (p_move rfl) rfl ?_
    refine g_yes rfl rfl ?_
    refine g_call (Hin := []) (Hr := ?hr6) (R := ?rr6) rfl rfl rfl ?hin6 ?hc6 ?hk6
    case hin6 => repeat' (first | exact Cover.nil | exact Take.here | apply Cover.cons | apply Take.there)
    case hc6 => intro ρ' hρ hR; exact lives_ok (hk.mono hρ)
    rintro _ _ ⟨rfl, rfl⟩
    first | refine g_pure (p_pickt rfl rfl) rfl ?_ | refine g_pure (p_pickf rfl rfl) rfl ?_
    refine g_pure (p_assign rfl) rfl ?_
    refine g_nil ?_
    refine g_qt ?_
    refine g_ret ?_
    exact g_post (rs := [.tmp 2]) rfl (.tmp rfl .nil) rfl (by repeat' (first | exact Cover.nil | exact Take.here | apply Cover.cons | apply Take.there))
end Go.Proofs.YtcnfcoojmbjdlaaGreatDoor
