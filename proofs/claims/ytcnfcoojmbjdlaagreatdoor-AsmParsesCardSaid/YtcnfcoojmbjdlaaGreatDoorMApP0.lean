/- Own texts, put together: Pa Pb Pc Pj Pp Pd Pe Pf Pg Ph Pq Pk Px Pr Ps Pt. Conditions: as told at each. -/
import Derived.Test.YtcnfcoojmbjdlaaGreatDoorMApQ1
import Derived.Test.YtcnfcoojmbjdlaaGreatDoorMApQ0
import Derived.Test.YtcnfcoojmbjdlaaGreatDoorRows
import Derived.Lib.LaidTab
import Derived.LaidLaws
import Derived.OpenShut
import Derived.Stop.LaidErr
import Derived.HandedShaped
import Derived.Shelf.Vars
import Derived.Lib.LaidIn
import Derived.Handed
import Derived.Test.YtcnfcoojmbjdlaaGreatDoorHq
import Derived.Test.YtcnfcoojmbjdlaaGreatDoorZm
/- Chapter 26: reading a text that has an error: a routine, the whole. Conditions: what the library's variables hold (LibA). -/
namespace Go.Proofs.YtcnfcoojmbjdlaaGreatDoor
set_option maxRecDepth 8000
set_option linter.unusedVariables false
set_option linter.unusedSimpArgs false
set_option linter.unusedSectionVars false
open Go Go.Z Go.Z.Asm Go.RowKit Go.Z.Txt

set_option maxHeartbeats 400000 in
theorem routE_gen {ρ : Nat → Obj → Prop} {RD : RS → Assn} {p lb : Nat} {ls : List (List UInt8)} (hRD : RD = Rd 73 p lb ls.length) (hk : LibA ρ) (hL : Lns ρ lb ls) (s : RS) (hs : s.1 < ls.length) (he : (foreS ls s).2 ≠ 0) :
  Con Tryz.prog ρ 52 #[.pointer (some ⟨p, 0, none⟩)] [RD s]
  (fun v H => ∃ (nm : ByteArray) (ia oa na : Option Addr) (il ic ol oc nl nc : Nat) (rg : Int), v = .agg #[.string nm, .slice ia il ic, .slice oa ol oc, .int .i64 rg, .slice na nl nc, .slice none 0 0] ∧ H = [RD (foreS ls s)]) := by
 have hll := hL.len
 have hne := nextS_ne ls s
 have hat := nextS_at ls s
 obtain ⟨hw1, hw2⟩ := nextS_words (s := s) hL.each
 have hhl := headS_lt hs
 have l1 := listS_lt inB (-1) hhl
 have l2 := listS_lt outW (-1) l1
 have l3 := listS_lt regsW 1 l2
 have l4 := listS_lt initW (-1) l3
 have hhd : headS ls s = doneS (if (nextS ls s).1.headD [] ≠ routW ∨ (nextS ls s).1.length ≠ 2 then failS 5 (nextS ls s).2 else (nextS ls s).2) := rfl
 have hfo : foreS ls s = listS ls initW (-1) (listS ls regsW 1 (listS ls outW (-1) (listS ls inB (-1) (headS ls s)))) := rfl
 rw [hfo] at he ⊢
 have cN : ∀ {ρ' : Nat → Obj → Prop}, (∀ b o, ρ b o → ρ' b o) → Con Tryz.prog ρ' 73 #[.pointer (some ⟨p, 0, none⟩)] [RD s] (fun v H => ∃ wb : Nat, v = .slice (some ⟨wb, 0, none⟩) (nextS ls s).1.length (nextS ls s).1.length ∧ H = [Blk wb (.cells ((nextS ls s).1.map strV).toArray 9 (0, 0)), RD (nextS ls s).2]) := fun {ρ'} hρ => by
  have := next_ok (hk.mono hρ) (hL.mono hρ) p s hs
  rw [← hRD] at this; exact this
 have cF : ∀ (ρ' : Nat → Obj → Prop) (t : RS) (x : Int), Con Tryz.prog ρ' 74 #[.pointer (some ⟨p, 0, none⟩), .int .i64 x] [RD t] (fun v H => v = .tuple #[] ∧ H = [RD (failS x t)]) := fun ρ' t x => by
  have := fail_ok (ρ := ρ') p lb ls.length t x
  rw [← hRD] at this; exact this
 have cD : ∀ (ρ' : Nat → Obj → Prop) (t : RS), t.1 ≤ 4611686018427387904 → Con Tryz.prog ρ' 76 #[.pointer (some ⟨p, 0, none⟩)] [RD t] (fun v H => v = .tuple #[] ∧ H = [RD (doneS t)]) := fun ρ' t h => by
  have := done_ok (ρ := ρ') p lb ls.length t h
  rw [← hRD] at this; exact this
 have cL : ∀ {ρ' : Nat → Obj → Prop}, (∀ b o, ρ b o → ρ' b o) → ∀ (t : RS), t.1 < ls.length → ∀ (word : List UInt8) (many : Int) (u : RS), listS ls word many t = u → Con Tryz.prog ρ' 50 #[.pointer (some ⟨p, 0, none⟩), .string (strB word), .int .i64 many] [RD t]
   (fun v H => ∃ oa oc, ∃ out : List Int, v = .slice oa out.length oc ∧ H = [OwnSl 3 1 oa out.length oc (out.map encI), RD u]) := fun {ρ'} hρ t ht word many u hu => by
  have := list_ok (hk.mono hρ) (hL.mono hρ) p t ht word many
  rw [← hRD, hu] at this
  exact this.mono fun v H ⟨oa, oc, out, h1, _, _, h2⟩ => ⟨oa, oc, out, h1, h2⟩
 have cI : ∀ {ρ' : Nat → Obj → Prop}, (∀ b o, ρ b o → ρ' b o) → ∀ (t : RS), t.1 < ls.length → t.2 ≠ 0 → Con Tryz.prog ρ' 77 #[.pointer (some ⟨p, 0, none⟩)] [RD t] (fun v H => v = .tuple #[.agg #[.int .i64 0, .int .i64 0, .int .i64 0, .int .i64 0, .int .i64 0], .bool false] ∧ H = [RD t]) := fun {ρ'} hρ t ht h0 => by
  have := insE_ok (hk.mono hρ) (hL.mono hρ) p t ht h0
  rw [← hRD] at this; exact this
 refine con_intro Tryz.func52 Tryz.call52 rfl Tryz.ntmps52 rfl (L := [(0, _)]) rfl fun w hh => ?_
 refine g_seq <| g_region ?_
 refine g_eff (e_alloc (by rfl)) rfl (fun _ _ => ?_)
 rintro ⟨b2, rfl, rfl⟩
 refine g_nil <| g_qt <| g_seq <| g_region ?_
 refine g_mv ?_
 refine g_call (Hin := [RD s]) (Hr := ?hr1) (R := ?rr1) rfl rfl rfl ?hin1 ?hc1 ?hk1
 case hin1 => repeat' (first | exact Cover.nil | exact Take.here | apply Cover.cons | apply Take.there)
 case hc1 => intro ρ' hρ hR; exact cN hρ
 rintro _ _ ⟨wb, rfl, rfl⟩
 generalize nextS ls s = N at hne hat hw1 hw2 hhd ⊢
 obtain ⟨W, s1⟩ := N
 dsimp only at hne hat hw1 hw2 hhd ⊢
 match W, hne with
 | w0 :: W, _ =>
 rw [List.headD_cons] at hhd
 refine g_as ?_
 refine g_nil <| g_qt <| g_seq ?_
 refine g_join (fun _ : Unit => [(0, .pointer (some ⟨p, 0, none⟩)), (2, .pointer (some ⟨b2, 0, none⟩)), (3, .slice (some ⟨wb, 0, none⟩) (w0 :: W).length (w0 :: W).length)]) (fun _ => [Blk wb (.cells ((w0 :: W).map strV).toArray 9 (0, 0)), RD (if w0 ≠ routW ∨ (w0 :: W).length ≠ 2 then failS 5 s1 else s1), Blk b2 (.cells [.string ⟨#[]⟩, .slice none 0 0, .slice none 0 0, .int .i64 0, .slice none 0 0, .slice none 0 0].toArray 45 (0, 0))]) (fun _ => True) ?_ ?_
 ·refine g_seq <| g_region ?_
  refine g_mv ?_
  refine g_pure (p_indexAddr rfl rfl (by simp) (fun _ => rfl)) rfl ?_
  refine g_pure (p_load (v := .string (strB w0)) (by rfl) rfl (Has.own (by repeat' (first | exact Take.here | apply Take.there))) (by rfl)) rfl ?_
  refine g_pure (p_neqs (i := strB w0) (j := strB routW) (by rfl) rfl rfl) rfl ?_
  refine g_mv ?_
  refine g_splitnd rfl rfl (fun h1 => ?_) (fun h1 => ?_)
  ·refine g_noA ?_
   refine g_noA ?_
   refine g_noA ?_
   first | refine g_pkt ?_ | refine g_pkf ?_
   refine g_nil <| g_qt ?_
   refine g_ift rfl ?_
   refine g_region ?_
   refine g_mv ?_
   refine g_call (Hin := [RD s1]) (Hr := ?hr2) (R := ?rr2) rfl rfl rfl ?hin2 ?hc2 ?hk2
   case hin2 => repeat' (first | exact Cover.nil | exact Take.here | apply Cover.cons | apply Take.there)
   case hc2 => intro ρ' hρ hR; exact cF ρ' s1 5
   rintro _ _ ⟨rfl, rfl⟩
   refine g_nil <| g_qn ?_
   first | (rw [if_pos (show w0 ≠ routW ∨ (w0 :: W).length ≠ 2 from by first | (refine .inl (fun h => ?_); have h9 := strB_inj.2 h; contradiction) | (refine .inr ?_; omega))]; exact g_joinedA () trivial) | (rw [if_neg (fun h : w0 ≠ routW ∨ (w0 :: W).length ≠ 2 => by rcases h with h | h; exact h (strB_inj.1 (by assumption)); omega)]; exact g_joinedA () trivial)
  ·refine g_yesA ?_
   refine g_mv ?_
   refine g_yesA ?_
   refine g_pure (p_len (by rfl) rfl) rfl ?_
   refine g_yesA ?_
   refine g_pure (p_neq rfl rfl) rfl ?_
   first | refine g_pkt ?_ | refine g_pkf ?_
   refine g_nil <| g_qt ?_
   refine g_ifndL rfl (fun h3 => ?_) (fun h3 => ?_)
   ·refine g_region ?_
    refine g_mv ?_
    refine g_call (Hin := [RD s1]) (Hr := ?hr3) (R := ?rr3) rfl rfl rfl ?hin3 ?hc3 ?hk3
    case hin3 => repeat' (first | exact Cover.nil | exact Take.here | apply Cover.cons | apply Take.there)
    case hc3 => intro ρ' hρ hR; exact cF ρ' s1 5
    rintro _ _ ⟨rfl, rfl⟩
    refine g_nil <| g_qn ?_
    first | (rw [if_pos (show w0 ≠ routW ∨ (w0 :: W).length ≠ 2 from by first | (refine .inl (fun h => ?_); have h9 := strB_inj.2 h; contradiction) | (refine .inr ?_; omega))]; exact g_joinedA () trivial) | (rw [if_neg (fun h : w0 ≠ routW ∨ (w0 :: W).length ≠ 2 => by rcases h with h | h; exact h (strB_inj.1 (by assumption)); omega)]; exact g_joinedA () trivial)
   ·refine g_skip <| g_qn ?_
    first | (rw [if_pos (show w0 ≠ routW ∨ (w0 :: W).length ≠ 2 from by first | (refine .inl (fun h => ?_); have h9 := strB_inj.2 h; contradiction) | (refine .inr ?_; omega))]; exact g_joinedA () trivial) | (rw [if_neg (fun h : w0 ≠ routW ∨ (w0 :: W).length ≠ 2 => by rcases h with h | h; exact h (strB_inj.1 (by assumption)); omega)]; exact g_joinedA () trivial)
 rintro _ -
 refine g_qt ?_
 have hat2 : (if w0 ≠ routW ∨ (w0 :: W).length ≠ 2 then failS 5 s1 else s1).1 = s.1 := by split <;> exact hat
 generalize (if w0 ≠ routW ∨ (w0 :: W).length ≠ 2 then failS 5 s1 else s1) = s2 at hat2 hhd ⊢
 refine g_seq <| g_region ?_
 refine g_mv ?_
 refine g_call (Hin := [RD s2]) (Hr := ?hr4) (R := ?rr4) rfl rfl rfl ?hin4 ?hc4 ?hk4
 case hin4 => repeat' (first | exact Cover.nil | exact Take.here | apply Cover.cons | apply Take.there)
 case hc4 => intro ρ' hρ hR; exact cD ρ' s2 (by omega)
 rintro _ _ ⟨rfl, rfl⟩
 rw [← hhd]
 obtain ⟨wl, hwl⟩ : ∃ wl, ((w0 :: W).map strV)[(w0 :: W).length - 1]? = some (.string (strB wl)) := ⟨(w0 :: W)[(w0 :: W).length - 1]'(by simp), by rw [List.getElem?_map, List.getElem?_eq_getElem (by simp)]; rfl⟩
 generalize hs3 : headS ls s = s3 at hhl l1 l2 l3 l4 he ⊢
 generalize hs4 : listS ls inB (-1) s3 = s4 at l1 l2 l3 l4 he ⊢
 generalize hs5 : listS ls outW (-1) s4 = s5 at l2 l3 l4 he ⊢
 generalize hs6 : listS ls regsW 1 s5 = s6 at l3 l4 he ⊢
 generalize hs7 : listS ls initW (-1) s6 = s7 at l4 he ⊢
 refine g_nil <| g_qt <| g_seq ?_
 refine g_join (fun y : Nat × (Option Addr × Nat × Nat) × (Option Addr × Nat × Nat) => [(0, .pointer (some ⟨p, 0, none⟩)), (2, .pointer (some ⟨b2, 0, none⟩)), (4, .pointer (some ⟨y.1, 0, none⟩))])
  (fun y => [Blk y.1 (.cells [.string (strB wl), .slice y.2.1.1 y.2.1.2.1 y.2.1.2.2, .slice y.2.2.1 y.2.2.2.1 y.2.2.2.2, .int .i64 0, .slice none 0 0, .slice none 0 0].toArray 45 (0, 0)), RD s5, Blk b2 (.cells [.string ⟨#[]⟩, .slice none 0 0, .slice none 0 0, .int .i64 0, .slice none 0 0, .slice none 0 0].toArray 45 (0, 0))]) (fun _ => True) ?_ ?_
 ·refine m_begin (.fl 0 0 (.fl 1 0 (.fl 2 0 (.fl 3 0 (.fl 4 0 (.fl 5 1 (.fl 6 0 (.fl 8 0 (.or (.ef 7 (.or (.ef 9 (.fl 10 0 (.ef 11 (.ef 12 .done)))) (.ef 11 (.ef 9 (.fl 10 0 (.ef 12 .done)))))) (.ef 11 (.ef 7 (.ef 9 (.fl 10 0 (.ef 12 .done)))))))))))))) [Blk wb (.cells ((w0 :: W).map strV).toArray 9 (0, 0)), Blk b2 (.cells [.string ⟨#[]⟩, .slice none 0 0, .slice none 0 0, .int .i64 0, .slice none 0 0, .slice none 0 0].toArray 45 (0, 0))] (by kernel_rfl) (by kernel_rfl) (by repeat' (first | exact Cover.nil | exact Take.here | apply Cover.cons | apply Take.there)) ?_
  refine m_float0 rfl (fun _ _ => p_move rfl) rfl ?_
  refine m_float0 rfl (fun _ _ => p_move rfl) rfl ?_
  refine m_float0 rfl (fun _ _ => p_len (by rfl) rfl) rfl ?_
  first | refine m_float0 rfl (fun _ _ => p_subi rfl rfl (by omega)) rfl ?_ | refine m_float0 rfl (fun _ _ => p_sub rfl rfl) rfl ?_
  refine m_float0 rfl (fun _ _ => p_indexAddr rfl rfl (by simp; omega) (fun _ => rfl)) rfl ?_
  refine m_float rfl (p_load (v := .string (strB wl)) (by rfl) rfl (Has.own (by repeat' (first | exact Take.here | apply Take.there))) (by rw [← hwl]; congr 1; simp)) rfl ?_
  refine m_float0 rfl (fun _ _ => p_move rfl) rfl ?_
  refine m_float0 rfl (fun _ _ => p_move rfl) rfl ?_
  refine m_or ?_ ?_
  ·refine m_call (Hin := [RD s3]) (Hr := ?hr5) (R := ?rr5) rfl wantedN rfl rfl rfl ?hin5 ?hc5 ?hk5
   case hin5 => repeat' (first | exact Cover.nil | exact Take.here | apply Cover.cons | apply Take.there)
   case hc5 => intro ρ' hρ hR; exact cL hρ s3 hhl inB (-1) s4 hs4
   rintro _ _ ⟨a31, c31, out31, rfl, rfl⟩
   refine ⟨.some (by repeat' (first | exact Cover.nil | exact Take.here | apply Cover.cons | apply Take.there)), ?_⟩
   refine m_or ?_ ?_
   ·refine m_call (Hin := [RD s4]) (Hr := ?hr6) (R := ?rr6) rfl wantedN rfl rfl rfl ?hin6 ?hc6 ?hk6
    case hin6 => repeat' (first | exact Cover.nil | exact Take.here | apply Cover.cons | apply Take.there)
    case hc6 => intro ρ' hρ hR; exact cL hρ s4 l1 outW (-1) s5 hs5
    rintro _ _ ⟨a33, c33, out33, rfl, rfl⟩
    refine ⟨.some (by repeat' (first | exact Cover.nil | exact Take.here | apply Cover.cons | apply Take.there)), ?_⟩
    refine m_float0 rfl (fun _ _ => p_build (by rfl) rfl (by rfl)) rfl ?_
    refine m_eff rfl (e_alloc (by rfl)) rfl (fun _ _ => ?_)
    rintro ⟨b4, rfl, rfl⟩
    refine ⟨.some (by repeat' (first | exact Cover.nil | exact Take.here | apply Cover.cons | apply Take.there)), ?_⟩
    first | refine m_eff0 rfl (e_storeO rfl rfl (by rfl) (by rfl) (by rfl) (by repeat' (first | exact Take.here | apply Take.there)) (by rfl)) (fun _ _ => ?_) | refine m_eff0 rfl (e_storeN rfl rfl (by rfl) (by rfl) (by rfl) (by repeat' (first | exact Take.here | apply Take.there)) (by simp)) (fun _ _ => ?_)
    rintro rfl
    refine ⟨.none (by kernel_rfl), ?_⟩
    refine m_nil ?_
    refine g_qn ?_
    exact g_joinedA (b4, (a31, out31.length, c31), (a33, out33.length, c33)) trivial
   refine m_eff rfl (e_alloc (by rfl)) rfl (fun _ _ => ?_)
   rintro ⟨b4, rfl, rfl⟩
   refine ⟨.some (by repeat' (first | exact Cover.nil | exact Take.here | apply Cover.cons | apply Take.there)), ?_⟩
   refine m_call (Hin := [RD s4]) (Hr := ?hr7) (R := ?rr7) rfl wantedN rfl rfl rfl ?hin7 ?hc7 ?hk7
   case hin7 => repeat' (first | exact Cover.nil | exact Take.here | apply Cover.cons | apply Take.there)
   case hc7 => intro ρ' hρ hR; exact cL hρ s4 l1 outW (-1) s5 hs5
   rintro _ _ ⟨a33, c33, out33, rfl, rfl⟩
   refine ⟨.some (by repeat' (first | exact Cover.nil | exact Take.here | apply Cover.cons | apply Take.there)), ?_⟩
   refine m_float0 rfl (fun _ _ => p_build (by rfl) rfl (by rfl)) rfl ?_
   first | refine m_eff0 rfl (e_storeO rfl rfl (by rfl) (by rfl) (by rfl) (by repeat' (first | exact Take.here | apply Take.there)) (by rfl)) (fun _ _ => ?_) | refine m_eff0 rfl (e_storeN rfl rfl (by rfl) (by rfl) (by rfl) (by repeat' (first | exact Take.here | apply Take.there)) (by simp)) (fun _ _ => ?_)
   rintro rfl
   refine ⟨.none (by kernel_rfl), ?_⟩
   refine m_nil ?_
   refine g_qn ?_
   exact g_joinedA (b4, (a31, out31.length, c31), (a33, out33.length, c33)) trivial
  refine m_eff rfl (e_alloc (by rfl)) rfl (fun _ _ => ?_)
  rintro ⟨b4, rfl, rfl⟩
  refine ⟨.some (by repeat' (first | exact Cover.nil | exact Take.here | apply Cover.cons | apply Take.there)), ?_⟩
  refine m_call (Hin := [RD s3]) (Hr := ?hr8) (R := ?rr8) rfl wantedN rfl rfl rfl ?hin8 ?hc8 ?hk8
  case hin8 => repeat' (first | exact Cover.nil | exact Take.here | apply Cover.cons | apply Take.there)
  case hc8 => intro ρ' hρ hR; exact cL hρ s3 hhl inB (-1) s4 hs4
  rintro _ _ ⟨a31, c31, out31, rfl, rfl⟩
  refine ⟨.some (by repeat' (first | exact Cover.nil | exact Take.here | apply Cover.cons | apply Take.there)), ?_⟩
  refine m_call (Hin := [RD s4]) (Hr := ?hr9) (R := ?rr9) rfl wantedN rfl rfl rfl ?hin9 ?hc9 ?hk9
  case hin9 => repeat' (first | exact Cover.nil | exact Take.here | apply Cover.cons | apply Take.there)
  case hc9 => intro ρ' hρ hR; exact cL hρ s4 l1 outW (-1) s5 hs5
  rintro _ _ ⟨a33, c33, out33, rfl, rfl⟩
  refine ⟨.some (by repeat' (first | exact Cover.nil | exact Take.here | apply Cover.cons | apply Take.there)), ?_⟩
  refine m_float0 rfl (fun _ _ => p_build (by rfl) rfl (by rfl)) rfl ?_
  first | refine m_eff0 rfl (e_storeO rfl rfl (by rfl) (by rfl) (by rfl) (by repeat' (first | exact Take.here | apply Take.there)) (by rfl)) (fun _ _ => ?_) | refine m_eff0 rfl (e_storeN rfl rfl (by rfl) (by rfl) (by rfl) (by repeat' (first | exact Take.here | apply Take.there)) (by simp)) (fun _ _ => ?_)
  rintro rfl
  refine ⟨.none (by kernel_rfl), ?_⟩
  refine m_nil ?_
  refine g_qn ?_
  exact g_joinedA (b4, (a31, out31.length, c31), (a33, out33.length, c33)) trivial
 rintro ⟨b4, ⟨a31, n31, c31⟩, ⟨a33, n33, c33⟩⟩ -
 dsimp only
 refine g_qt <| g_seq <| g_seq <| g_region ?_
 refine g_mv ?_
 refine g_call (Hin := [RD s5]) (Hr := ?hr10) (R := ?rr10) rfl rfl rfl ?hin10 ?hc10 ?hk10
 case hin10 => repeat' (first | exact Cover.nil | exact Take.here | apply Cover.cons | apply Take.there)
 case hc10 => intro ρ' hρ hR; exact cL hρ s5 l2 regsW 1 s6 hs6
 rintro _ _ ⟨a36, c36, out36, rfl, rfl⟩
 refine g_pure (p_len (by rfl) rfl) rfl ?_
 refine g_mv ?_
 refine g_nil <| g_qt <| g_block ?_
 refine g_loop (fun q : Nat × Int => [(0, .pointer (some ⟨p, 0, none⟩)), (2, .pointer (some ⟨b2, 0, none⟩)), (4, .pointer (some ⟨b4, 0, none⟩)), (36, .slice a36 out36.length c36), (37, .int .i64 out36.length), (38, .int .i64 q.1)])
  (fun q => [OwnSl 3 1 a36 out36.length c36 (out36.map encI), Blk b4 (.cells [.string (strB wl), .slice a31 n31 c31, .slice a33 n33 c33, .int .i64 q.2, .slice none 0 0, .slice none 0 0].toArray 45 (0, 0)), RD s6, Blk b2 (.cells [.string ⟨#[]⟩, .slice none 0 0, .slice none 0 0, .int .i64 0, .slice none 0 0, .slice none 0 0].toArray 45 (0, 0))])
  (fun q => q.1 ≤ out36.length) (fun q => out36.length - q.1) (0, 0) (Nat.zero_le _) (by (repeat (first | exact trivial | refine ⟨by rfl, ?_⟩)); done) (by repeat' (first | exact Cover.nil | exact Take.here | apply Cover.cons | apply Take.there)) ?_
 rintro ⟨k, z⟩ hk1
 dsimp only at hk1 ⊢
 have hol : out36.length ≤ 4294967296 ∨ True := .inr trivial
 refine g_seq <| g_region ?_
 refine g_pure (p_lss rfl rfl) rfl ?_
 refine g_nil <| g_qt <| g_seq ?_
 refine g_ifd rfl (fun q => ?_) (fun q => ?_)
 ·have hkl : k < out36.length := by omega
  have hx := mapI2 out36 hkl
  refine g_own (e := 3) (size := 1) (a1 := a36) (k := out36.length) (cap := c36) (xs := out36.map encI) (by repeat' (first | exact Take.here | apply Take.there)) (fun _ h _ _ => absurd h (by omega)) ?_
  rintro g cur rfl hc1 hc2 hcl htk hxl
  refine g_skip <| g_qt <| g_seq <| g_block <| g_seq <| g_region ?_
  refine g_pure (p_indexAddr rfl rfl (by omega) (fun _ => rfl)) rfl ?_
  refine g_pure (p_load (v := .int .i64 out36[k]) (by rfl) rfl (Has.own (by repeat' (first | exact Take.here | apply Take.there))) (own_at (k := k) htk (by show 0 + (k : Int).toNat * 1 = _; omega) hx)) rfl ?_
  refine g_as ?_
  refine g_nil <| g_qt <| g_region ?_
  refine g_mv ?_
  refine g_fa ?_
  first | refine g_eff0 (e_storeO rfl rfl (by rfl) (by rfl) (by rfl) (by repeat' (first | exact Take.here | apply Take.there)) (by rfl)) (fun _ _ => ?_) | refine g_eff0 (e_store1 (by rfl) rfl rfl rfl (by repeat' (first | exact Take.here | apply Take.there)) (by first | decide | (simp <;> omega) | omega)) (fun _ _ => ?_)
  rintro rfl
  refine g_nil <| g_qb <| g_qt <| g_region ?_
  first | refine g_pure (p_addi rfl rfl (by omega)) rfl ?_ | refine g_pure (p_add rfl rfl) rfl ?_
  refine g_mv ?_
  refine g_nil <| g_qn ?_
  refine g_fold (e := 3) (size := 1) (g := g) (k := out36.length) (cap := c36) (cur := cur) (xs := out36.map encI) (by repeat' (first | exact Take.here | apply Take.there)) hc1 hc2 hcl htk ?_
  exact g_nextA (k + 1, out36[k]) hkl (by dsimp only; omega)
 ·refine g_exit <| g_qt_exit <| g_qn_exit <| g_qb_exit <| g_qt <| g_seq <| g_region ?_
  refine g_mv ?_
  refine g_call (Hin := [RD s6]) (Hr := ?hr11) (R := ?rr11) rfl rfl rfl ?hin11 ?hc11 ?hk11
  case hin11 => repeat' (first | exact Cover.nil | exact Take.here | apply Cover.cons | apply Take.there)
  case hc11 => intro ρ' hρ hR; exact cL hρ s6 l3 initW (-1) s7 hs7
  rintro _ _ ⟨a46, c46, out46, rfl, rfl⟩
  refine g_fa ?_
  first | refine g_eff0 (e_storeO rfl rfl (by rfl) (by rfl) (by rfl) (by repeat' (first | exact Take.here | apply Take.there)) (by rfl)) (fun _ _ => ?_) | refine g_eff0 (e_store1 (by rfl) rfl rfl rfl (by repeat' (first | exact Take.here | apply Take.there)) (by first | decide | (simp <;> omega) | omega)) (fun _ _ => ?_)
  rintro rfl
  refine g_nil <| g_qt <| g_block ?_
  refine g_loop (fun _ : Unit => [(0, .pointer (some ⟨p, 0, none⟩)), (2, .pointer (some ⟨b2, 0, none⟩)), (4, .pointer (some ⟨b4, 0, none⟩))])
   (fun _ => [Blk b4 (.cells [.string (strB wl), .slice a31 n31 c31, .slice a33 n33 c33, .int .i64 z, .slice a46 out46.length c46, .slice none 0 0].toArray 45 (0, 0)), RD s7, Blk b2 (.cells [.string ⟨#[]⟩, .slice none 0 0, .slice none 0 0, .int .i64 0, .slice none 0 0, .slice none 0 0].toArray 45 (0, 0))])
   (fun _ => True) (fun _ => 0) () trivial (by (repeat (first | exact trivial | refine ⟨by rfl, ?_⟩)); done) (by repeat' (first | exact Cover.nil | exact Take.here | apply Cover.cons | apply Take.there)) ?_
  rintro _ -
  refine g_block <| g_seq <| g_region ?_
  refine g_mv ?_
  refine g_call (Hin := [RD s7]) (Hr := ?hr12) (R := ?rr12) rfl rfl rfl ?hin12 ?hc12 ?hk12
  case hin12 => repeat' (first | exact Cover.nil | exact Take.here | apply Cover.cons | apply Take.there)
  case hc12 => intro ρ' hρ hR; exact cI hρ s7 l4 he
  rintro _ _ ⟨rfl, rfl⟩
  refine g_mv ?_
  refine g_pure (p_extract rfl rfl) rfl ?_
  refine g_pure (p_extract rfl rfl) rfl ?_
  refine g_eff (e_alloc (by rfl)) rfl (fun _ _ => ?_)
  rintro ⟨b7, rfl, rfl⟩
  first | refine g_eff0 (e_storeO rfl rfl (by rfl) (by rfl) (by rfl) (by repeat' (first | exact Take.here | apply Take.there)) (by rfl)) (fun _ _ => ?_) | refine g_eff0 (e_storeN rfl rfl (by rfl) (by rfl) (by rfl) (by repeat' (first | exact Take.here | apply Take.there)) (by simp)) (fun _ _ => ?_)
  rintro rfl
  refine g_as ?_
  refine g_nil <| g_qt <| g_seq <| g_seq <| g_region ?_
  refine g_mv ?_
  refine g_pure (p_not rfl) rfl ?_
  refine g_nil <| g_qt ?_
  refine g_ift rfl ?_
  refine g_seq <| g_region ?_
  first | refine g_pure (p_loadO (by rfl) rfl (by first | (apply Has.own; (repeat' (first | exact Take.here | apply Take.there)); done) | exact Has.ro (by assumption)) (by rfl)) rfl ?_ | refine g_pure (p_loadN (by rfl) rfl (by first | (apply Has.own; (repeat' (first | exact Take.here | apply Take.there)); done) | exact Has.ro (by assumption)) (by first | rfl | assumption)) rfl ?_
  first | refine g_eff0 (e_storeO rfl rfl (by rfl) (by rfl) (by rfl) (by repeat' (first | exact Take.here | apply Take.there)) (by rfl)) (fun _ _ => ?_) | refine g_eff0 (e_storeN rfl rfl (by rfl) (by rfl) (by rfl) (by repeat' (first | exact Take.here | apply Take.there)) (by simp)) (fun _ _ => ?_)
  rintro rfl
  refine g_nil <| g_qt <| g_ret <| g_qt_ret <| g_qb_ret <| g_qn_ret <| g_qb_ret ?_
  exact g_postA (rs := [.cell 2 45]) rfl (Res.cellN (by rfl) rfl (Has.own (by repeat' (first | exact Take.here | apply Take.there))) (by rfl) .nil) ⟨_, _, _, _, _, _, _, _, _, _, _, rfl, rfl⟩
theorem routE_ok {ρ : Nat → Obj → Prop} (hk : LibA ρ) {lb : Nat} {ls : List (List UInt8)} (hL : Lns ρ lb ls) (p : Nat) (s : RS) (hs : s.1 < ls.length) (he : (foreS ls s).2 ≠ 0) :
  Con Tryz.prog ρ 52 #[.pointer (some ⟨p, 0, none⟩)] [Rd 73 p lb ls.length s]
  (fun v H => ∃ (nm : ByteArray) (ia oa na : Option Addr) (il ic ol oc nl nc : Nat) (rg : Int), v = .agg #[.string nm, .slice ia il ic, .slice oa ol oc, .int .i64 rg, .slice na nl nc, .slice none 0 0] ∧ H = [Rd 73 p lb ls.length (foreS ls s)]) := routE_gen rfl hk hL s hs he
end Go.Proofs.YtcnfcoojmbjdlaaGreatDoor
/- Chapter 26: reading a text whose first routine has an error. Conditions: what the library's variables hold (LibA). -/
namespace Go.Proofs.YtcnfcoojmbjdlaaGreatDoor
set_option maxRecDepth 8000
set_option linter.unusedVariables false
set_option linter.unusedSimpArgs false
set_option linter.unusedSectionVars false
open Go Go.Z Go.Z.Asm Go.RowKit Go.Z.Txt

theorem parseE_ok {ρ : Nat → Obj → Prop} (hk : LibA ρ) (s : List UInt8) (hs : s.length ≤ 4194304) (s1 s2 : RS) (h1 : listS (pieces 10 s) enumW (-1) (0, 0) = s1) (hm : moreS (pieces 10 s) s1 = true) (h2 : foreS (pieces 10 s) s1 = s2) (he : s2.2 ≠ 0) :
  Con Tryz.prog ρ 25 #[.string (strB s)] [] (fun v H => v = .tuple #[.agg #[.slice none 0 0, .slice none 0 0], .int .i64 ((s2.1 : Int) + 1), .int .i64 s2.2] ∧ H = []) := by
 have hsz : (strB s).size = s.length := rfl
 have hpl := pieces_le 10 s
 have hp0 := pieces_ne 10 s
 have hpm : ∀ l ∈ pieces 10 s, l.length < 4294967281 := fun l hl => Nat.lt_of_le_of_lt (pieces_mem hl).2 (by omega)
 generalize hls : pieces 10 s = ls at h1 hm h2 hpl hp0 hpm
 have hpos : 0 < ls.length := List.length_pos_iff.2 hp0
 have l1 : s1.1 < ls.length := by rw [← h1]; exact listS_lt enumW (-1) hpos
 have l2 : s2.1 < ls.length := by
  rw [← h2]
  exact listS_lt initW (-1) (listS_lt regsW 1 (listS_lt outW (-1) (listS_lt inB (-1) (headS_lt l1))))
 have hmf : moreS ls s2 = false := by unfold moreS; rw [decide_eq_false he]; rfl
 have mkL : ∀ {ρ' : Nat → Obj → Prop} {lb : Nat}, ρ' lb (.cells (ls.map strV).toArray 9 (0, 0)) → Lns ρ' lb ls := fun h => ⟨⟨_, _, h⟩, hpos, by omega, hpm⟩
 refine con_intro Tryz.func25 Tryz.call25 rfl Tryz.ntmps25 rfl (L := [(0, _)]) rfl fun w hh => ?_
 refine g_seq <| g_region ?_
 refine g_eff (e_alloc (by rfl)) rfl (fun _ _ => ?_)
 rintro ⟨b2, rfl, rfl⟩
 refine g_as ?_
 refine g_as ?_
 refine g_nil <| g_qt <| g_seq <| g_seq <| g_region ?_
 refine g_mv ?_
 refine g_pure (p_lens (by rfl) rfl) rfl ?_
 refine g_pure (p_gtr rfl rfl) rfl ?_
 refine g_nil <| g_qt ?_
 refine g_ifd rfl (fun q0 => ?_) (fun q0 => ?_)
 ·exfalso; omega
 ·refine g_skip <| g_qt <| g_seq <| g_region ?_
  refine g_mv ?_
  refine g_call (Hin := []) (Hr := ?hr1) (R := ?rr1) rfl rfl rfl ?hin1 ?hc1 ?hk1
  case hin1 => repeat' (first | exact Cover.nil | exact Take.here | apply Cover.cons | apply Take.there)
  case hc1 => intro ρ' hρ hR; exact split_ok (hk.mono hρ) s 10 (by omega)
  rintro _ _ ⟨lb, rfl, rfl⟩
  rw [hls]
  refine g_pure (p_build (by rfl) rfl (by rfl)) rfl ?_
  refine g_eff (e_box rfl (by rfl)) rfl (fun _ _ => ?_)
  rintro ⟨b15, rfl, rfl⟩
  refine g_as ?_
  refine g_nil <| g_qt <| g_seq <| g_region ?_
  refine g_mv ?_
  rw [show Blk b15 (.cells [.slice (some ⟨lb, 0, none⟩) ls.length ls.length, .int .i64 0, .int .i64 0].toArray 73 (0, 0)) = Rd 73 b15 lb ls.length (0, 0) from rfl]
  refine g_call (Hin := [Rd 73 b15 lb ls.length (0, 0)]) (Hr := ?hr2) (R := ?rr2) rfl rfl rfl ?hin2 ?hc2 ?hk2
  case hin2 => repeat' (first | exact Cover.nil | exact Take.here | apply Cover.cons | apply Take.there)
  case hc2 => intro ρ' hρ hR; exact (by have := list_ok (hk.mono hρ) (mkL (Take.ro (A := Blk lb (.cells (ls.map strV).toArray 9 (0, 0))) (by repeat' (first | exact Take.here | apply Take.there)) hR).blk) b15 (0, 0) hpos enumW (-1); rw [h1] at this; exact this)
  rintro _ _ ⟨a17, c17, out17, rfl, -, -, rfl⟩
  refine g_pure (p_build (by rfl) rfl (by rfl)) rfl ?_
  refine g_eff (e_alloc (by rfl)) rfl (fun _ _ => ?_)
  rintro ⟨b6, rfl, rfl⟩
  first | refine g_eff0 (e_storeO rfl rfl (by rfl) (by rfl) (by rfl) (by repeat' (first | exact Take.here | apply Take.there)) (by rfl)) (fun _ _ => ?_) | refine g_eff0 (e_storeN rfl rfl (by rfl) (by rfl) (by rfl) (by repeat' (first | exact Take.here | apply Take.there)) (by simp)) (fun _ _ => ?_)
  rintro rfl
  refine g_nil <| g_qt <| g_seq <| g_block ?_
  refine g_loop (fun _ : Option (Option Addr × Nat) => [(2, .pointer (some ⟨b2, 0, none⟩)), (5, .pointer (some ⟨b15, 0, none⟩)), (6, .pointer (some ⟨b6, 0, none⟩))])
   (fun q => match q with
    | none => [Blk b6 (.cells [.slice a17 out17.length c17, .slice none 0 0].toArray 25 (0, 0)), Rd 73 b15 lb ls.length s1, Blk lb (.cells (ls.map strV).toArray 9 (0, 0)), Blk b2 (.cells [.slice none 0 0, .slice none 0 0].toArray 25 (0, 0))]
    | some (ra, rc) => [Blk b6 (.cells [.slice a17 out17.length c17, .slice ra 1 rc].toArray 25 (0, 0)), Rd 73 b15 lb ls.length s2, Blk lb (.cells (ls.map strV).toArray 9 (0, 0)), Blk b2 (.cells [.slice none 0 0, .slice none 0 0].toArray 25 (0, 0))])
   (fun _ => True) (fun q => match q with | none => 1 | some _ => 0) none trivial (by (repeat (first | exact trivial | refine ⟨by rfl, ?_⟩)); done) (by repeat' (first | exact Cover.nil | exact Take.here | apply Cover.cons | apply Take.there)) ?_
  rintro (_ | ⟨ra, rc⟩) -
  ·dsimp only
   refine g_seq <| g_seq <| g_region ?_
   refine g_mv ?_
   refine g_call (Hin := [Rd 73 b15 lb ls.length s1]) (Hr := ?hr3) (R := ?rr3) rfl rfl rfl ?hin3 ?hc3 ?hk3
   case hin3 => repeat' (first | exact Cover.nil | exact Take.here | apply Cover.cons | apply Take.there)
   case hc3 => intro ρ' hρ hR; exact (by have := more_ok (mkL (Take.ro (A := Blk lb (.cells (ls.map strV).toArray 9 (0, 0))) (by repeat' (first | exact Take.here | apply Take.there)) hR).blk) b15 s1 l1; rw [hm] at this; exact this)
   rintro _ _ ⟨rfl, rfl⟩
   refine g_nil <| g_qt ?_
   refine g_ift rfl ?_
   refine g_skip <| g_qt <| g_block ?_
   refine g_ownnil (e := 45) (size := 6) ?_
   refine m_begin (.fl 0 0 (.fl 1 1 (.fl 2 0 (.ef 3 (.ef 4 (.ef 5 (.fl 6 0 (.ef 7 .done)))))))) [Blk b6 (.cells [.slice a17 out17.length c17, .slice none 0 0].toArray 25 (0, 0)), Blk lb (.cells (ls.map strV).toArray 9 (0, 0)), Blk b2 (.cells [.slice none 0 0, .slice none 0 0].toArray 25 (0, 0))] (by kernel_rfl) (by kernel_rfl) (by repeat' (first | exact Cover.nil | exact Take.here | apply Cover.cons | apply Take.there)) ?_
   refine m_float0 rfl (fun _ _ => p_fieldAddr rfl) rfl ?_
   refine m_float rfl (p_loadA) rfl ?_
   refine m_float0 rfl (fun _ _ => p_move rfl) rfl ?_
   refine m_call (Hin := [Rd 73 b15 lb ls.length s1]) (Hr := ?hr4) (R := ?rr4) rfl wantedN rfl rfl rfl ?hin4 ?hc4 ?hk4
   case hin4 => repeat' (first | exact Cover.nil | exact Take.here | apply Cover.cons | apply Take.there)
   case hc4 => intro ρ' hρ hR; exact (by have := routE_ok (hk.mono hρ) (mkL (Take.ro (A := Blk lb (.cells (ls.map strV).toArray 9 (0, 0))) (by repeat' (first | exact Take.here | apply Take.there)) hR).blk) b15 s1 l1 (by rw [h2]; exact he); rw [h2] at this; exact this)
   rintro _ _ ⟨nm, ia, oa, na, il, ic, ol, oc, nl, nc, rg, rfl, rfl⟩
   refine ⟨.some (by repeat' (first | exact Cover.nil | exact Take.here | apply Cover.cons | apply Take.there)), ?_⟩
   refine m_eff rfl (e_bs (xs := [.tmp 24]) rfl rfl rfl (by rfl) (by rfl) rfl (by rfl)) rfl (fun _ _ => ?_)
   rintro ⟨b25, rfl, rfl⟩
   refine ⟨.some (by repeat' (first | exact Cover.nil | exact Take.here | apply Cover.cons | apply Take.there)), ?_⟩
   refine m_eff rfl (e_appendO (by rfl) (by rfl) rfl rfl (by first | (apply Has.own; (repeat' (first | exact Take.here | apply Take.there)); done) | exact Has.ro (by assumption)) (by rfl) (by rfl) (by repeat' (first | exact Take.here | apply Take.there)) (by omega) (by first | omega | (dsimp only; omega) | (simp <;> omega)) (by omega)) rfl (fun _ _ => ?_)
   rintro ⟨a26, c26, rfl, rfl⟩
   refine ⟨.none (by kernel_rfl), ?_⟩
   refine m_float0 rfl (fun _ _ => p_fieldAddr rfl) rfl ?_
   first | refine m_eff0 rfl (e_storeO rfl rfl (by rfl) (by rfl) (by rfl) (by repeat' (first | exact Take.here | apply Take.there)) (by rfl)) (fun _ _ => ?_) | refine m_eff0 rfl (e_store1 (by rfl) rfl rfl rfl (by repeat' (first | exact Take.here | apply Take.there)) (by first | decide | (simp <;> omega) | omega)) (fun _ _ => ?_)
   rintro rfl
   refine ⟨.none (by kernel_rfl), ?_⟩
   refine m_nil ?_
   refine g_qb <| g_qn ?_
   exact g_nextA (some (a26, c26)) trivial Nat.one_pos
  ·dsimp only
   refine g_seq <| g_seq <| g_region ?_
   refine g_mv ?_
   refine g_call (Hin := [Rd 73 b15 lb ls.length s2]) (Hr := ?hr5) (R := ?rr5) rfl rfl rfl ?hin5 ?hc5 ?hk5
   case hin5 => repeat' (first | exact Cover.nil | exact Take.here | apply Cover.cons | apply Take.there)
   case hc5 => intro ρ' hρ hR; exact (by have := more_ok (mkL (Take.ro (A := Blk lb (.cells (ls.map strV).toArray 9 (0, 0))) (by repeat' (first | exact Take.here | apply Take.there)) hR).blk) b15 s2 l2; rw [hmf] at this; exact this)
   rintro _ _ ⟨rfl, rfl⟩
   refine g_nil <| g_qt ?_
   refine g_iff rfl ?_
   refine g_exit <| g_qt_exit <| g_qn_exit <| g_qb_exit <| g_qt <| g_seq <| g_seq <| g_region ?_
   refine g_mv ?_
   refine g_pure (p_nilCheck rfl) rfl ?_
   refine g_fa ?_
   refine g_ld ?_
   refine g_pure (p_neq rfl rfl) rfl ?_
   refine g_nil <| g_qt ?_
   obtain ⟨at2, e2⟩ := s2
   dsimp only at he l2
   unfold Rd
   dsimp only
   refine g_ifnd rfl (fun q1 => ?_) (fun q1 => ?_)
   ·refine g_seq ?_
    refine m_begin0 (.fl 0 0 (.fl 1 0 (.fl 2 0 (.fl 3 0 (.fl 4 1 (.fl 5 0 (.fl 6 0 (.fl 7 0 (.fl 8 0 (.fl 9 1 (.ef 10 (.fl 11 0 (.fl 12 0 .done))))))))))))) (by kernel_rfl) (by kernel_rfl) ?_
    refine m_float0 rfl (fun _ _ => p_build (by rfl) rfl (by rfl)) rfl ?_
    refine m_float0 rfl (fun _ _ => p_move rfl) rfl ?_
    refine m_float0 rfl (fun _ _ => p_nilCheck rfl) rfl ?_
    refine m_float0 rfl (fun _ _ => p_fieldAddr rfl) rfl ?_
    refine m_float rfl (p_loadA) rfl ?_
    first | refine m_float0 rfl (fun _ _ => p_addi rfl rfl (by omega)) rfl ?_ | refine m_float0 rfl (fun _ _ => p_add rfl rfl) rfl ?_
    refine m_float0 rfl (fun _ _ => p_move rfl) rfl ?_
    refine m_float0 rfl (fun _ _ => p_nilCheck rfl) rfl ?_
    refine m_float0 rfl (fun _ _ => p_fieldAddr rfl) rfl ?_
    refine m_float rfl (p_loadA) rfl ?_
    first | refine m_eff0 rfl (e_storeO rfl rfl (by rfl) (by rfl) (by rfl) (by repeat' (first | exact Take.here | apply Take.there)) (by rfl)) (fun _ _ => ?_) | refine m_eff0 rfl (e_storeN rfl rfl (by rfl) (by rfl) (by rfl) (by repeat' (first | exact Take.here | apply Take.there)) (by simp)) (fun _ _ => ?_)
    rintro rfl
    refine ⟨.some (by repeat' (first | exact Cover.nil | exact Take.here | apply Cover.cons | apply Take.there)), ?_⟩
    refine m_float0 rfl (fun _ _ => p_assign rfl) rfl ?_
    refine m_float0 rfl (fun _ _ => p_assign rfl) rfl ?_
    refine m_nil ?_
    refine g_qt <| g_ret <| g_qt_ret ?_
    exact g_postA (rs := [.cell 2 25, .tmp 3, .tmp 4]) rfl (Res.cellN (by rfl) rfl (Has.own (by repeat' (first | exact Take.here | apply Take.there))) (by rfl) (.tmp rfl (.tmp rfl .nil))) ⟨rfl, rfl⟩
   ·exact absurd q1 he
end Go.Proofs.YtcnfcoojmbjdlaaGreatDoor
/- Chapter 26: the chapter's examples hold. Conditions: what the library's variables hold (LibA). -/
namespace Go.Z
set_option maxRecDepth 8000
set_option linter.unusedVariables false
set_option linter.unusedSimpArgs false
set_option linter.unusedSectionVars false
open Go
section
variable {P : Program} {n : Nat} {L : Fr} {H H' Hs : List Assn} {M : Mx} {Q : Exit → Act → World → Prop} {ops : Array Oper} {ty : TypeId} {ps : String} {af : Array Edge} {bf : Array Nat} {F T : List Nat} {i : Nat} {rest : Tree}
/-- an effect in a drawn region that is carried out, behind a guard -/
theorem m_effY {d j dj : Nat} {b : Bool} {op : Op} {post : Value → List Assn → Prop} (ho : ops[i]? = some ⟨some d, op, ty, ps, af, some (j, b)⟩) (hd : (ops[j]?).bind (·.dst) = some dj) (hl : L.lookup dj = some (.bool b)) (hp : Eff P M n L H ⟨some d, op, ty, ps, af, some (j, b)⟩ post) (hn : Nat.blt d n = true)
  (k : ∀ v H', post v H' → Kept bf F T i H' Hs ∧ G M n ((d, v) :: L) H' (TM P ops bf F M Hs rest (upd bf F T i) Q)) : G M n L H (TM P ops bf F M Hs (.ef i rest) T Q) := by
 unfold G TM at *
 intro a w ha hm
 simp only [wpMix, wpOp, ho]
 rw [if_pos (by simp [Region.wanted, yielded_of hd ha hl])]
 refine .inl (hp a w ha hm _ _ fun v H' w' hpost hm' => ?_)
 obtain ⟨hc, hk⟩ := k v H' hpost
 exact ⟨hc.ms hm', hk _ _ (ha.put (by simpa using hn) v) hm'⟩
end
end Go.Z
namespace Go.Z.Asm
set_option maxRecDepth 8000
set_option linter.unusedVariables false
set_option linter.unusedSimpArgs false
set_option linter.unusedSectionVars false
open Go Go.Z Go.Lib Go.Z.Txt Go.Z.Val
theorem numbersS_err {W : List (List UInt8)} {many : Int} {s : RS} (h : s.2 ≠ 0) : numbersS W many s = s := by
 rw [numbersS_eq]
 have h1 : badS W s = s := by unfold badS; split; exact failS_err h; rfl
 rw [h1]
 have h2 : (if 0 ≤ many ∧ (W.length : Int) ≠ many then failS 5 s else s) = s := by split; exact failS_err h; rfl
 rw [h2]
 unfold doneS
 rw [if_neg h]
theorem listS_err {ls : List (List UInt8)} {word : List UInt8} {many : Int} {s : RS} (h : s.2 ≠ 0) : listS ls word many s = s := by
 unfold listS
 rw [nextS_err h]
 dsimp only
 have h2 : (if ([[]] : List (List UInt8)).headD [] ≠ word then failS 5 s else s) = s := by split; exact failS_err h; rfl
 rw [h2, numbersS_err h]
theorem listS_bad {ls : List (List UInt8)} {word : List UInt8} {many : Int} {s : RS} {t : RS} (h : (if (nextS ls s).1.headD [] ≠ word then failS 5 (nextS ls s).2 else (nextS ls s).2) = t) (h0 : t.2 ≠ 0) : listS ls word many s = t := by
 unfold listS
 dsimp only
 rw [h, numbersS_err h0]
def badT : List UInt8 := [101, 110, 117, 109, 115, 10, 114, 111, 117, 116, 105, 110, 101, 32, 102, 10, 105, 110, 10, 111, 116, 32, 49, 10]
theorem bad_enums : listS (pieces 10 badT) enumW (-1) (0, 0) = (1, 0) := by decide
theorem bad_more : moreS (pieces 10 badT) (1, 0) = true := by decide
theorem bad_fore : foreS (pieces 10 badT) (1, 0) = (3, 5) := by
 have h1 : headS (pieces 10 badT) (1, 0) = (2, 0) := by decide
 have h2 : listS (pieces 10 badT) inB (-1) (2, 0) = (3, 0) := by decide
 have h3 : listS (pieces 10 badT) outW (-1) (3, 0) = (3, 5) := listS_bad (by decide) (by decide)
 unfold foreS
 rw [h1, h2, h3, listS_err (by decide), listS_err (by decide)]
theorem small_text : textP smallI = [101, 110, 117, 109, 115, 10, 114, 111, 117, 116, 105, 110, 101, 32, 102, 10, 105, 110, 32, 50, 32, 50, 10, 111, 117, 116, 32, 50, 10, 114, 101, 103, 115, 32, 51, 10, 105, 110, 105, 116, 10, 122, 101, 114, 111, 32, 48, 32, 50, 10, 97, 112, 112, 108, 121, 32, 50, 32, 48, 32, 49, 32, 54, 10, 109, 111, 118, 101, 32, 50, 32, 50, 10, 101, 110, 100, 10] := by
 have it : ∀ n : Int, 0 ≤ n → n < 10 → itoa n = [UInt8.ofNat (48 + n.toNat)] := fun n h0 h1 => by
  rw [itoa_pos (by omega), dec_small (by omega)]
 have i0 : itoa 0 = [48] := it 0 (by decide) (by decide)
 have i1 : itoa 1 = [49] := it 1 (by decide) (by decide)
 have i2 : itoa 2 = [50] := it 2 (by decide) (by decide)
 have i3 : itoa 3 = [51] := it 3 (by decide) (by decide)
 have i6 : itoa 6 = [54] := it 6 (by decide) (by decide)
 simp [textP, smallI, rtT, insT, lineP, usedP, opRow, knownP, opT, fieldsV, i0, i1, i2, i3, i6]
def smallR : List Value := encIns (8, 0, 2, 0, 0) ++ encIns (6, 2, 0, 1, 6) ++ encIns (2, 2, 2, 0, 0)
theorem small_im {ρ : Nat → Obj → Prop} {b1 b2 b6 b8 : Nat} {T1 T2 T6 T8 : TypeId} {f1 f2 f6 f8 : Nat × Nat} (h1 : ρ b1 (.cells [encI 2, encI 2].toArray T1 f1)) (h2 : ρ b2 (.cells [encI 2].toArray T2 f2)) (h6 : ρ b6 (.cells smallR.toArray T6 f6))
  (h8 : ρ b8 (.cells [.string (strB [102]), .slice (some ⟨b1, 0, none⟩) 2 2, .slice (some ⟨b2, 0, none⟩) 1 1, .int .i64 3, .slice none 0 0, .slice (some ⟨b6, 0, none⟩) 3 3].toArray T8 f8)) : ImI ρ none (some ⟨b8, 0, none⟩) smallI where
 es := rsl_nil
 rs := rts_one h8 ⟨_, 2, _, 1, _, 0, _, 3, rfl, RSl.of_blk (k := 2) (size := 1) h1 (Nat.le_refl _), RSl.of_blk (k := 1) (size := 1) h2 (Nat.le_refl _), rsl_nil, RSl.of_blk (k := 3) (size := 5) h6 (Nat.le_refl _)⟩
 el := by decide
 rl := by decide
 ei := fun v h => absurd h List.not_mem_nil
 ok := fun x hx => by
  rw [show x = smallI.2[0] from List.mem_singleton.1 hx]
  exact ⟨by decide, by decide, by decide, by decide, by decide, fun v hv => by simp [smallI] at hv; subst hv; exact ⟨by decide, by decide⟩, fun v hv => by simp [smallI] at hv; subst hv; exact ⟨by decide, by decide⟩, ⟨by decide, by decide⟩, fun v hv => by simp [smallI] at hv, fun i hi => by
   simp [smallI] at hi
   rcases hi with rfl | rfl | rfl <;> exact ⟨⟨by decide, by decide⟩, ⟨by decide, by decide⟩, ⟨by decide, by decide⟩, ⟨by decide, by decide⟩, ⟨by decide, by decide⟩⟩⟩
end Go.Z.Asm
namespace Go.Proofs.YtcnfcoojmbjdlaaGreatDoor
set_option maxRecDepth 8000
set_option linter.unusedVariables false
set_option linter.unusedSimpArgs false
set_option linter.unusedSectionVars false
open Go Go.Z Go.Z.Asm Go.RowKit Go.Z.Txt

theorem smallA_ok {ρ : Nat → Obj → Prop} : Con Tryz.prog ρ 28 #[] [] (fun v H => ∃ b1 b2 b6 b8 : Nat, v = .agg #[.slice none 0 0, .slice (some ⟨b8, 0, none⟩) 1 1] ∧
  H = [Blk b8 (.cells [.string (strB [102]), .slice (some ⟨b1, 0, none⟩) 2 2, .slice (some ⟨b2, 0, none⟩) 1 1, .int .i64 3, .slice none 0 0, .slice (some ⟨b6, 0, none⟩) 3 3].toArray 45 (0, 0)), Blk b6 (.cells smallR.toArray 32 (0, 0)), Blk b2 (.cells [encI 2].toArray 3 (0, 0)), Blk b1 (.cells [encI 2, encI 2].toArray 3 (0, 0))]) := by
 refine con_intro Tryz.func28 Tryz.call28 rfl Tryz.ntmps28 rfl (L := []) rfl fun w hh => ?_
 refine g_seq <| g_region ?_
 refine g_eff (e_alloc (by rfl)) rfl (fun _ _ => ?_)
 rintro ⟨b0, rfl, rfl⟩
 refine g_nil <| g_qt <| g_seq <| g_region ?_
 refine g_eff (e_bs (xs := [.const (.int .i64 2), .const (.int .i64 2)]) rfl rfl rfl (by rfl) (by rfl) rfl (by rfl)) rfl (fun _ _ => ?_)
 rintro ⟨b1, rfl, rfl⟩
 refine g_eff (e_bs (xs := [.const (.int .i64 2)]) rfl rfl rfl (by rfl) (by rfl) rfl (by rfl)) rfl (fun _ _ => ?_)
 rintro ⟨b2, rfl, rfl⟩
 refine g_pure (p_build (by rfl) rfl (by rfl)) rfl ?_
 refine g_pure (p_build (by rfl) rfl (by rfl)) rfl ?_
 refine g_pure (p_build (by rfl) rfl (by rfl)) rfl ?_
 refine g_eff (e_bs (xs := [.tmp 3, .tmp 4, .tmp 5]) rfl rfl rfl (by rfl) (by rfl) rfl (by rfl)) rfl (fun _ _ => ?_)
 rintro ⟨b6, rfl, rfl⟩
 refine g_pure (p_build (by rfl) rfl (by rfl)) rfl ?_
 refine g_eff (e_bs (xs := [.tmp 7]) rfl rfl rfl (by rfl) (by rfl) rfl (by rfl)) rfl (fun _ _ => ?_)
 rintro ⟨b8, rfl, rfl⟩
 refine g_pure (p_build (by rfl) rfl (by rfl)) rfl ?_
 first | refine g_eff0 (e_storeO rfl rfl (by rfl) (by rfl) (by rfl) (by repeat' (first | exact Take.here | apply Take.there)) (by rfl)) (fun _ _ => ?_) | refine g_eff0 (e_storeN rfl rfl (by rfl) (by rfl) (by rfl) (by repeat' (first | exact Take.here | apply Take.there)) (by simp)) (fun _ _ => ?_)
 rintro rfl
 refine g_nil <| g_qt <| g_ret ?_
 exact g_postA (rs := [.cell 0 25]) rfl (Res.cellN (by rfl) rfl (Has.own (by repeat' (first | exact Take.here | apply Take.there))) (by rfl) .nil) ⟨b1, b2, b6, b8, rfl, rfl⟩

theorem lives_ok {ρ : Nat → Obj → Prop} (hk : LibA ρ) : Con Tryz.prog ρ 11 #[] [] (fun v H => v = .bool true ∧ H = []) := by
 refine con_intro Tryz.func11 Tryz.call11 rfl Tryz.ntmps11 rfl (L := []) rfl fun w hh => ?_
 refine g_seq <| g_region ?_
 refine g_as ?_
 refine g_nil <| g_qt <| g_seq <| g_region ?_
 refine g_call (Hin := []) (Hr := ?hr1) (R := ?rr1) rfl rfl rfl ?hin1 ?hc1 ?hk1
 case hin1 => repeat' (first | exact Cover.nil | exact Take.here | apply Cover.cons | apply Take.there)
 case hc1 => intro ρ' hρ hR; exact smallA_ok
 rintro _ _ ⟨m1, m2, m6, m8, rfl, rfl⟩
 have cT : ∀ {ρ' : Nat → Obj → Prop} {b8 : Nat}, (∀ b o, ρ b o → ρ' b o) → ImI ρ' none (some ⟨b8, 0, none⟩) smallI → Con Tryz.prog ρ' 23 #[.agg #[.slice none 0 0, .slice (some ⟨b8, 0, none⟩) 1 1]] [] (fun v H => v = .tuple #[.string (strB [101, 110, 117, 109, 115, 10, 114, 111, 117, 116, 105, 110, 101, 32, 102, 10, 105, 110, 32, 50, 32, 50, 10, 111, 117, 116, 32, 50, 10, 114, 101, 103, 115, 32, 51, 10, 105, 110, 105, 116, 10, 122, 101, 114, 111, 32, 48, 32, 50, 10, 97, 112, 112, 108, 121, 32, 50, 32, 48, 32, 49, 32, 54, 10, 109, 111, 118, 101, 32, 50, 32, 50, 10, 101, 110, 100, 10]), .int .i64 0] ∧ H = []) := fun hρ h => by
  have := textA_ok (ec := 0) (rc := 1) (hk.mono hρ).ops (hk.mono hρ).tab h
  rw [small_check, if_pos rfl, small_text] at this
  exact this
 have cW : ∀ {ρ' : Nat → Obj → Prop} {b8 : Nat}, (∀ b o, ρ b o → ρ' b o) → ImI ρ' none (some ⟨b8, 0, none⟩) smallI → Con Tryz.prog ρ' 21 #[.agg #[.slice none 0 0, .slice (some ⟨b8, 0, none⟩) 1 1]] [] (fun v H => v = .tuple #[.int .i64 3, .int .i64 0] ∧ H = []) := fun hρ h => by
  have := worstA_ok (ec := 0) (rc := 1) (hk.mono hρ).ops h
  rw [small_worst] at this
  exact this
 have cC : ∀ {ρ' : Nat → Obj → Prop} {b8 : Nat}, (∀ b o, ρ b o → ρ' b o) → ImI ρ' none (some ⟨b8, 0, none⟩) smallI → Con Tryz.prog ρ' 14 #[.agg #[.slice none 0 0, .slice (some ⟨b8, 0, none⟩) 1 1]] [] (fun v H => v = .int .i64 0 ∧ H = []) := fun hρ h => by
  have := checkA_ok (ec := 0) (rc := 1) (hk.mono hρ).ops h
  rw [small_check] at this
  exact this
 have cU : ∀ {ρ' : Nat → Obj → Prop} {b8 : Nat}, ImI ρ' none (some ⟨b8, 0, none⟩) smallI → Con Tryz.prog ρ' 17 #[.agg #[.slice none 0 0, .slice (some ⟨b8, 0, none⟩) 1 1], .agg (encIns (6, 2, 0, 1, 6)).toArray] [] (fun v H => ∃ a c, v = .slice a 2 c ∧ H = [OwnSl 3 1 a 2 c ([0, 1].map encI)]) := fun h => by
  have := usesA_ok (ec := 0) (rc := 1) h (6, 2, 0, 1, 6) ⟨by decide, by decide⟩
  rw [small_uses] at this
  exact this
 have cS : ∀ {ρ' : Nat → Obj → Prop} {b8 : Nat}, ImI ρ' none (some ⟨b8, 0, none⟩) smallI → Con Tryz.prog ρ' 12 #[.agg #[.slice none 0 0, .slice (some ⟨b8, 0, none⟩) 1 1], .agg #[.slice none 0 0, .slice (some ⟨b8, 0, none⟩) 1 1]] [] (fun v H => v = .bool true ∧ H = []) := fun h => by
  have := sameA_ok (ec := 0) (rc := 1) (ed := 0) (rd := 1) h h
  rw [decide_eq_true (p := smallI = smallI) rfl] at this
  exact this
 have cP : ∀ {ρ' : Nat → Obj → Prop}, (∀ b o, ρ b o → ρ' b o) → Con Tryz.prog ρ' 25 #[.string (strB badT)] [] (fun v H => v = .tuple #[.agg #[.slice none 0 0, .slice none 0 0], .int .i64 4, .int .i64 5] ∧ H = []) := fun hρ =>
  parseE_ok (hk.mono hρ) badT (by decide) (1, 0) (3, 5) bad_enums bad_more bad_fore (by decide)
 have cN : ∀ {ρ' : Nat → Obj → Prop} (a b : Option Addr) (c : Nat), RSl ρ' 1 a 2 ([0, 1].map encI) → RSl ρ' 1 b 2 ([0, 1].map encI) → Con Tryz.prog ρ' 16 #[.slice a 2 c, .slice b 2 2] [] (fun v H => v = .bool true ∧ H = []) := fun a b c h1 h2 => by
  have := Ints_ok a b c 2 [0, 1] [0, 1] h1 h2 (by decide)
  rw [decide_eq_true (p := ([0, 1] : List Int) = [0, 1]) rfl] at this
  exact this
 refine g_eff (e_alloc (by rfl)) rfl (fun _ _ => ?_)
 rintro ⟨b1, rfl, rfl⟩
 first | refine g_eff0 (e_storeO rfl rfl (by rfl) (by rfl) (by rfl) (by repeat' (first | exact Take.here | apply Take.there)) (by rfl)) (fun _ _ => ?_) | refine g_eff0 (e_storeN rfl rfl (by rfl) (by rfl) (by rfl) (by repeat' (first | exact Take.here | apply Take.there)) (by simp)) (fun _ _ => ?_)
 rintro rfl
 refine g_nil <| g_qt <| g_seq <| g_region ?_
 first | refine g_pure (p_loadO (by rfl) rfl (by first | (apply Has.own; (repeat' (first | exact Take.here | apply Take.there)); done) | exact Has.ro (by assumption)) (by rfl)) rfl ?_ | refine g_pure (p_loadN (by rfl) rfl (by first | (apply Has.own; (repeat' (first | exact Take.here | apply Take.there)); done) | exact Has.ro (by assumption)) (by first | rfl | assumption)) rfl ?_
 refine g_call (Hin := []) (Hr := ?hr2) (R := ?rr2) rfl rfl rfl ?hin2 ?hc2 ?hk2
 case hin2 => repeat' (first | exact Cover.nil | exact Take.here | apply Cover.cons | apply Take.there)
 case hc2 => intro ρ' hρ hR; exact cT hρ (small_im (Take.ro (A := Blk m1 (.cells [encI 2, encI 2].toArray 3 (0, 0))) (by repeat' (first | exact Take.here | apply Take.there)) hR).blk (Take.ro (A := Blk m2 (.cells [encI 2].toArray 3 (0, 0))) (by repeat' (first | exact Take.here | apply Take.there)) hR).blk (Take.ro (A := Blk m6 (.cells smallR.toArray 32 (0, 0))) (by repeat' (first | exact Take.here | apply Take.there)) hR).blk (Take.ro (A := Blk m8 (.cells [.string (strB [102]), .slice (some ⟨m1, 0, none⟩) 2 2, .slice (some ⟨m2, 0, none⟩) 1 1, .int .i64 3, .slice none 0 0, .slice (some ⟨m6, 0, none⟩) 3 3].toArray 45 (0, 0))) (by repeat' (first | exact Take.here | apply Take.there)) hR).blk)
 rintro _ _ ⟨rfl, rfl⟩
 refine g_mv ?_
 refine g_pure (p_extract rfl rfl) rfl ?_
 refine g_pure (p_extract rfl rfl) rfl ?_
 refine g_as ?_
 refine g_as ?_
 refine g_nil <| g_qt <| g_seq <| g_region ?_
 first | refine g_pure (p_loadO (by rfl) rfl (by first | (apply Has.own; (repeat' (first | exact Take.here | apply Take.there)); done) | exact Has.ro (by assumption)) (by rfl)) rfl ?_ | refine g_pure (p_loadN (by rfl) rfl (by first | (apply Has.own; (repeat' (first | exact Take.here | apply Take.there)); done) | exact Has.ro (by assumption)) (by first | rfl | assumption)) rfl ?_
 refine g_call (Hin := []) (Hr := ?hr3) (R := ?rr3) rfl rfl rfl ?hin3 ?hc3 ?hk3
 case hin3 => repeat' (first | exact Cover.nil | exact Take.here | apply Cover.cons | apply Take.there)
 case hc3 => intro ρ' hρ hR; exact cW hρ (small_im (Take.ro (A := Blk m1 (.cells [encI 2, encI 2].toArray 3 (0, 0))) (by repeat' (first | exact Take.here | apply Take.there)) hR).blk (Take.ro (A := Blk m2 (.cells [encI 2].toArray 3 (0, 0))) (by repeat' (first | exact Take.here | apply Take.there)) hR).blk (Take.ro (A := Blk m6 (.cells smallR.toArray 32 (0, 0))) (by repeat' (first | exact Take.here | apply Take.there)) hR).blk (Take.ro (A := Blk m8 (.cells [.string (strB [102]), .slice (some ⟨m1, 0, none⟩) 2 2, .slice (some ⟨m2, 0, none⟩) 1 1, .int .i64 3, .slice none 0 0, .slice (some ⟨m6, 0, none⟩) 3 3].toArray 45 (0, 0))) (by repeat' (first | exact Take.here | apply Take.there)) hR).blk)
 rintro _ _ ⟨rfl, rfl⟩
 refine g_mv ?_
 refine g_pure (p_extract rfl rfl) rfl ?_
 refine g_pure (p_extract rfl rfl) rfl ?_
 refine g_as ?_
 refine g_as ?_
 refine g_nil <| g_qt <| g_seq <| g_region ?_
 refine g_call (Hin := []) (Hr := ?hr4) (R := ?rr4) rfl rfl rfl ?hin4 ?hc4 ?hk4
 case hin4 => repeat' (first | exact Cover.nil | exact Take.here | apply Cover.cons | apply Take.there)
 case hc4 => intro ρ' hρ hR; exact cP hρ
 rintro _ _ ⟨rfl, rfl⟩
 refine g_mv ?_
 refine g_pure (p_extract rfl rfl) rfl ?_
 refine g_pure (p_extract rfl rfl) rfl ?_
 refine g_pure (p_extract rfl rfl) rfl ?_
 refine g_eff (e_alloc (by rfl)) rfl (fun _ _ => ?_)
 rintro ⟨b6, rfl, rfl⟩
 first | refine g_eff0 (e_storeO rfl rfl (by rfl) (by rfl) (by rfl) (by repeat' (first | exact Take.here | apply Take.there)) (by rfl)) (fun _ _ => ?_) | refine g_eff0 (e_storeN rfl rfl (by rfl) (by rfl) (by rfl) (by repeat' (first | exact Take.here | apply Take.there)) (by simp)) (fun _ _ => ?_)
 rintro rfl
 refine g_as ?_
 refine g_as ?_
 refine g_nil <| g_qt <| g_seq ?_
 refine g_join (fun _ : Unit => [(0, .bool true)]) (fun _ => []) (fun _ => True) ?_ ?_
 ·refine m_begin0 (.fl 0 0 (.fl 1 0 (.fl 2 0 (.fl 3 0 (.fl 4 0 (.fl 5 0 (.fl 6 0 (.fl 7 0 (.fl 8 0 (.fl 9 0 (.fl 10 0 (.fl 11 0 (.fl 12 0 (.fl 13 0 (.fl 14 0 (.fl 15 0 (.fl 16 0 (.fl 17 0 (.fl 18 0 (.fl 19 0 (.fl 20 0 (.fl 21 0 (.fl 22 0 (.fl 23 0 (.fl 24 1 (.fl 25 0 (.fl 26 0 (.fl 27 0 (.fl 28 0 (.fl 29 1 (.ef 30 (.fl 31 0 (.fl 32 0 (.fl 33 0 (.fl 34 1 (.fl 35 0 (.fl 36 1 (.fl 37 0 (.fl 38 0 (.fl 39 1 (.fl 40 0 (.fl 41 1 (.or (.ef 42 (.ef 43 (.ef 44 (.fl 45 0 (.fl 46 0 (.fl 47 1 (.fl 48 1 (.ef 49 (.fl 50 0 (.fl 51 0 .done)))))))))) (.ef 43 (.ef 42 (.ef 44 (.fl 45 0 (.fl 46 0 (.fl 47 1 (.fl 48 1 (.ef 49 (.fl 50 0 (.fl 51 0 .done))))))))))))))))))))))))))))))))))))))))))))))))))))) (by kernel_rfl) (by kernel_rfl) ?_
  refine m_float0 rfl (fun _ _ => p_move rfl) rfl ?_
  refine m_float0 rfl (fun _ _ => p_eqlT rfl rfl rfl) rfl ?_
  refine m_float0 rfl (fun _ _ => p_move rfl) rfl ?_
  refine m_yes0 rfl rfl rfl (fun _ _ => p_move rfl) rfl ?_
  refine m_yes0 rfl rfl rfl (fun _ _ => p_eqlsT (by rfl) rfl rfl rfl) rfl ?_
  first | refine m_float0 rfl (fun _ _ => p_pickt rfl rfl) rfl ?_ | refine m_float0 rfl (fun _ _ => p_pickf rfl rfl) rfl ?_
  refine m_float0 rfl (fun _ _ => p_move rfl) rfl ?_
  refine m_yes0 rfl rfl rfl (fun _ _ => p_move rfl) rfl ?_
  refine m_yes0 rfl rfl rfl (fun _ _ => p_eqlT rfl rfl rfl) rfl ?_
  first | refine m_float0 rfl (fun _ _ => p_pickt rfl rfl) rfl ?_ | refine m_float0 rfl (fun _ _ => p_pickf rfl rfl) rfl ?_
  refine m_float0 rfl (fun _ _ => p_move rfl) rfl ?_
  refine m_yes0 rfl rfl rfl (fun _ _ => p_move rfl) rfl ?_
  refine m_yes0 rfl rfl rfl (fun _ _ => p_eqlT rfl rfl rfl) rfl ?_
  first | refine m_float0 rfl (fun _ _ => p_pickt rfl rfl) rfl ?_ | refine m_float0 rfl (fun _ _ => p_pickf rfl rfl) rfl ?_
  refine m_float0 rfl (fun _ _ => p_move rfl) rfl ?_
  refine m_yes0 rfl rfl rfl (fun _ _ => p_move rfl) rfl ?_
  refine m_yes0 rfl rfl rfl (fun _ _ => p_eqlT rfl rfl rfl) rfl ?_
  first | refine m_float0 rfl (fun _ _ => p_pickt rfl rfl) rfl ?_ | refine m_float0 rfl (fun _ _ => p_pickf rfl rfl) rfl ?_
  refine m_float0 rfl (fun _ _ => p_move rfl) rfl ?_
  refine m_yes0 rfl rfl rfl (fun _ _ => p_move rfl) rfl ?_
  refine m_yes0 rfl rfl rfl (fun _ _ => p_eqlT rfl rfl rfl) rfl ?_
  first | refine m_float0 rfl (fun _ _ => p_pickt rfl rfl) rfl ?_ | refine m_float0 rfl (fun _ _ => p_pickf rfl rfl) rfl ?_
  refine m_float0 rfl (fun _ _ => p_move rfl) rfl ?_
  refine m_yes0 rfl rfl rfl (fun _ _ => p_fieldAddr rfl) rfl ?_
  refine m_yes rfl rfl rfl (p_loadA) rfl ?_
  refine m_yes0 rfl rfl rfl (fun _ _ => p_len (by rfl) rfl) rfl ?_
  refine m_yes0 rfl rfl rfl (fun _ _ => p_eqlT rfl rfl rfl) rfl ?_
  first | refine m_float0 rfl (fun _ _ => p_pickt rfl rfl) rfl ?_ | refine m_float0 rfl (fun _ _ => p_pickf rfl rfl) rfl ?_
  refine m_float0 rfl (fun _ _ => p_move rfl) rfl ?_
  first | refine m_yes rfl rfl rfl (p_loadO (by rfl) rfl (by first | (apply Has.own; (repeat' (first | exact Take.here | apply Take.there)); done) | exact Has.ro (by assumption)) (by rfl)) rfl ?_ | refine m_yes rfl rfl rfl (p_loadN (by rfl) rfl (by first | (apply Has.own; (repeat' (first | exact Take.here | apply Take.there)); done) | exact Has.ro (by assumption)) (by first | rfl | assumption)) rfl ?_
  refine m_call (Hin := []) (Hr := ?hr5) (R := ?rr5) rfl (wantedY rfl rfl) rfl rfl rfl ?hin5 ?hc5 ?hk5
  case hin5 => repeat' (first | exact Cover.nil | exact Take.here | apply Cover.cons | apply Take.there)
  case hc5 => intro ρ' hρ hR; exact cC hρ (small_im (Take.ro (A := Blk m1 (.cells [encI 2, encI 2].toArray 3 (0, 0))) (by repeat' (first | exact Take.here | apply Take.there)) hR).blk (Take.ro (A := Blk m2 (.cells [encI 2].toArray 3 (0, 0))) (by repeat' (first | exact Take.here | apply Take.there)) hR).blk (Take.ro (A := Blk m6 (.cells smallR.toArray 32 (0, 0))) (by repeat' (first | exact Take.here | apply Take.there)) hR).blk (Take.ro (A := Blk m8 (.cells [.string (strB [102]), .slice (some ⟨m1, 0, none⟩) 2 2, .slice (some ⟨m2, 0, none⟩) 1 1, .int .i64 3, .slice none 0 0, .slice (some ⟨m6, 0, none⟩) 3 3].toArray 45 (0, 0))) (by repeat' (first | exact Take.here | apply Take.there)) hR).blk)
  rintro _ _ ⟨rfl, rfl⟩
  refine ⟨.some (by repeat' (first | exact Cover.nil | exact Take.here | apply Cover.cons | apply Take.there)), ?_⟩
  refine m_yes0 rfl rfl rfl (fun _ _ => p_eqlT rfl rfl rfl) rfl ?_
  first | refine m_float0 rfl (fun _ _ => p_pickt rfl rfl) rfl ?_ | refine m_float0 rfl (fun _ _ => p_pickf rfl rfl) rfl ?_
  refine m_float0 rfl (fun _ _ => p_move rfl) rfl ?_
  first | refine m_yes rfl rfl rfl (p_loadO (by rfl) rfl (by first | (apply Has.own; (repeat' (first | exact Take.here | apply Take.there)); done) | exact Has.ro (by assumption)) (by rfl)) rfl ?_ | refine m_yes rfl rfl rfl (p_loadN (by rfl) rfl (by first | (apply Has.own; (repeat' (first | exact Take.here | apply Take.there)); done) | exact Has.ro (by assumption)) (by first | rfl | assumption)) rfl ?_
  refine m_yes0 rfl rfl rfl (fun _ _ => p_fieldAddr rfl) rfl ?_
  refine m_yes rfl rfl rfl (p_loadA) rfl ?_
  refine m_yes0 rfl rfl rfl (fun _ _ => p_indexAddr rfl rfl (by decide) (fun _ => rfl)) rfl ?_
  refine m_yes0 rfl rfl rfl (fun _ _ => p_fieldAddr rfl) rfl ?_
  refine m_yes rfl rfl rfl (p_loadA) rfl ?_
  refine m_yes0 rfl rfl rfl (fun _ _ => p_indexAddr rfl rfl (by decide) (fun _ => rfl)) rfl ?_
  first | refine m_yes rfl rfl rfl (p_loadO (by rfl) rfl (by first | (apply Has.own; (repeat' (first | exact Take.here | apply Take.there)); done) | exact Has.ro (by assumption)) (by rfl)) rfl ?_ | refine m_yes rfl rfl rfl (p_loadN (by rfl) rfl (by first | (apply Has.own; (repeat' (first | exact Take.here | apply Take.there)); done) | exact Has.ro (by assumption)) (by first | rfl | assumption)) rfl ?_
  refine m_or ?_ ?_
  ·refine m_call (Hin := []) (Hr := ?hr6) (R := ?rr6) rfl (wantedY rfl rfl) rfl rfl rfl ?hin6 ?hc6 ?hk6
   case hin6 => repeat' (first | exact Cover.nil | exact Take.here | apply Cover.cons | apply Take.there)
   case hc6 => intro ρ' hρ hR; exact cU (small_im (Take.ro (A := Blk m1 (.cells [encI 2, encI 2].toArray 3 (0, 0))) (by repeat' (first | exact Take.here | apply Take.there)) hR).blk (Take.ro (A := Blk m2 (.cells [encI 2].toArray 3 (0, 0))) (by repeat' (first | exact Take.here | apply Take.there)) hR).blk (Take.ro (A := Blk m6 (.cells smallR.toArray 32 (0, 0))) (by repeat' (first | exact Take.here | apply Take.there)) hR).blk (Take.ro (A := Blk m8 (.cells [.string (strB [102]), .slice (some ⟨m1, 0, none⟩) 2 2, .slice (some ⟨m2, 0, none⟩) 1 1, .int .i64 3, .slice none 0 0, .slice (some ⟨m6, 0, none⟩) 3 3].toArray 45 (0, 0))) (by repeat' (first | exact Take.here | apply Take.there)) hR).blk)
   rintro _ _ ⟨a67, c67, rfl, rfl⟩
   refine ⟨.some (by repeat' (first | exact Cover.nil | exact Take.here | apply Cover.cons | apply Take.there)), ?_⟩
   refine m_effY rfl rfl rfl (e_bs (xs := [.const (.int .i64 0), .const (.int .i64 1)]) rfl rfl rfl (by rfl) (by rfl) rfl (by rfl)) rfl (fun _ _ => ?_)
   rintro ⟨b68, rfl, rfl⟩
   refine ⟨.some (by repeat' (first | exact Cover.nil | exact Take.here | apply Cover.cons | apply Take.there)), ?_⟩
   refine m_call (Hin := []) (Hr := ?hr7) (R := ?rr7) rfl (wantedY rfl rfl) rfl rfl rfl ?hin7 ?hc7 ?hk7
   case hin7 => repeat' (first | exact Cover.nil | exact Take.here | apply Cover.cons | apply Take.there)
   case hc7 => intro ρ' hρ hR; exact cN a67 (some ⟨b68, 0, none⟩) c67 (RSl.of_own (Take.ro (A := OwnSl 3 1 a67 2 c67 ([0, 1].map encI)) (by repeat' (first | exact Take.here | apply Take.there)) hR)) (RSl.of_blk (T := 3) (cs := [.int .i64 0, .int .i64 1]) (k := 2) (size := 1) (Take.ro (A := Blk b68 (.cells [.int .i64 0, .int .i64 1].toArray 3 (0, 0))) (by repeat' (first | exact Take.here | apply Take.there)) hR).blk (Nat.le_refl _))
   rintro _ _ ⟨rfl, rfl⟩
   refine ⟨.some (by repeat' (first | exact Cover.nil | exact Take.here | apply Cover.cons | apply Take.there)), ?_⟩
   first | refine m_float0 rfl (fun _ _ => p_pickt rfl rfl) rfl ?_ | refine m_float0 rfl (fun _ _ => p_pickf rfl rfl) rfl ?_
   refine m_float0 rfl (fun _ _ => p_move rfl) rfl ?_
   first | refine m_yes rfl rfl rfl (p_loadO (by rfl) rfl (by first | (apply Has.own; (repeat' (first | exact Take.here | apply Take.there)); done) | exact Has.ro (by assumption)) (by rfl)) rfl ?_ | refine m_yes rfl rfl rfl (p_loadN (by rfl) rfl (by first | (apply Has.own; (repeat' (first | exact Take.here | apply Take.there)); done) | exact Has.ro (by assumption)) (by first | rfl | assumption)) rfl ?_
   first | refine m_yes rfl rfl rfl (p_loadO (by rfl) rfl (by first | (apply Has.own; (repeat' (first | exact Take.here | apply Take.there)); done) | exact Has.ro (by assumption)) (by rfl)) rfl ?_ | refine m_yes rfl rfl rfl (p_loadN (by rfl) rfl (by first | (apply Has.own; (repeat' (first | exact Take.here | apply Take.there)); done) | exact Has.ro (by assumption)) (by first | rfl | assumption)) rfl ?_
   refine m_call (Hin := []) (Hr := ?hr8) (R := ?rr8) rfl (wantedY rfl rfl) rfl rfl rfl ?hin8 ?hc8 ?hk8
   case hin8 => repeat' (first | exact Cover.nil | exact Take.here | apply Cover.cons | apply Take.there)
   case hc8 => intro ρ' hρ hR; exact cS (small_im (Take.ro (A := Blk m1 (.cells [encI 2, encI 2].toArray 3 (0, 0))) (by repeat' (first | exact Take.here | apply Take.there)) hR).blk (Take.ro (A := Blk m2 (.cells [encI 2].toArray 3 (0, 0))) (by repeat' (first | exact Take.here | apply Take.there)) hR).blk (Take.ro (A := Blk m6 (.cells smallR.toArray 32 (0, 0))) (by repeat' (first | exact Take.here | apply Take.there)) hR).blk (Take.ro (A := Blk m8 (.cells [.string (strB [102]), .slice (some ⟨m1, 0, none⟩) 2 2, .slice (some ⟨m2, 0, none⟩) 1 1, .int .i64 3, .slice none 0 0, .slice (some ⟨m6, 0, none⟩) 3 3].toArray 45 (0, 0))) (by repeat' (first | exact Take.here | apply Take.there)) hR).blk)
   rintro _ _ ⟨rfl, rfl⟩
   refine ⟨.none (by kernel_rfl), ?_⟩
   first | refine m_float0 rfl (fun _ _ => p_pickt rfl rfl) rfl ?_ | refine m_float0 rfl (fun _ _ => p_pickf rfl rfl) rfl ?_
   refine m_float0 rfl (fun _ _ => p_assign rfl) rfl ?_
   refine m_nil ?_
   refine g_qn ?_
   exact g_joinedA () trivial
  refine m_effY rfl rfl rfl (e_bs (xs := [.const (.int .i64 0), .const (.int .i64 1)]) rfl rfl rfl (by rfl) (by rfl) rfl (by rfl)) rfl (fun _ _ => ?_)
  rintro ⟨b68, rfl, rfl⟩
  refine ⟨.some (by repeat' (first | exact Cover.nil | exact Take.here | apply Cover.cons | apply Take.there)), ?_⟩
  refine m_call (Hin := []) (Hr := ?hr9) (R := ?rr9) rfl (wantedY rfl rfl) rfl rfl rfl ?hin9 ?hc9 ?hk9
  case hin9 => repeat' (first | exact Cover.nil | exact Take.here | apply Cover.cons | apply Take.there)
  case hc9 => intro ρ' hρ hR; exact cU (small_im (Take.ro (A := Blk m1 (.cells [encI 2, encI 2].toArray 3 (0, 0))) (by repeat' (first | exact Take.here | apply Take.there)) hR).blk (Take.ro (A := Blk m2 (.cells [encI 2].toArray 3 (0, 0))) (by repeat' (first | exact Take.here | apply Take.there)) hR).blk (Take.ro (A := Blk m6 (.cells smallR.toArray 32 (0, 0))) (by repeat' (first | exact Take.here | apply Take.there)) hR).blk (Take.ro (A := Blk m8 (.cells [.string (strB [102]), .slice (some ⟨m1, 0, none⟩) 2 2, .slice (some ⟨m2, 0, none⟩) 1 1, .int .i64 3, .slice none 0 0, .slice (some ⟨m6, 0, none⟩) 3 3].toArray 45 (0, 0))) (by repeat' (first | exact Take.here | apply Take.there)) hR).blk)
  rintro _ _ ⟨a67, c67, rfl, rfl⟩
  refine ⟨.some (by repeat' (first | exact Cover.nil | exact Take.here | apply Cover.cons | apply Take.there)), ?_⟩
  refine m_call (Hin := []) (Hr := ?hr10) (R := ?rr10) rfl (wantedY rfl rfl) rfl rfl rfl ?hin10 ?hc10 ?hk10
  case hin10 => repeat' (first | exact Cover.nil | exact Take.here | apply Cover.cons | apply Take.there)
  case hc10 => intro ρ' hρ hR; exact cN a67 (some ⟨b68, 0, none⟩) c67 (RSl.of_own (Take.ro (A := OwnSl 3 1 a67 2 c67 ([0, 1].map encI)) (by repeat' (first | exact Take.here | apply Take.there)) hR)) (RSl.of_blk (T := 3) (cs := [.int .i64 0, .int .i64 1]) (k := 2) (size := 1) (Take.ro (A := Blk b68 (.cells [.int .i64 0, .int .i64 1].toArray 3 (0, 0))) (by repeat' (first | exact Take.here | apply Take.there)) hR).blk (Nat.le_refl _))
  rintro _ _ ⟨rfl, rfl⟩
  refine ⟨.some (by repeat' (first | exact Cover.nil | exact Take.here | apply Cover.cons | apply Take.there)), ?_⟩
  first | refine m_float0 rfl (fun _ _ => p_pickt rfl rfl) rfl ?_ | refine m_float0 rfl (fun _ _ => p_pickf rfl rfl) rfl ?_
  refine m_float0 rfl (fun _ _ => p_move rfl) rfl ?_
  first | refine m_yes rfl rfl rfl (p_loadO (by rfl) rfl (by first | (apply Has.own; (repeat' (first | exact Take.here | apply Take.there)); done) | exact Has.ro (by assumption)) (by rfl)) rfl ?_ | refine m_yes rfl rfl rfl (p_loadN (by rfl) rfl (by first | (apply Has.own; (repeat' (first | exact Take.here | apply Take.there)); done) | exact Has.ro (by assumption)) (by first | rfl | assumption)) rfl ?_
  first | refine m_yes rfl rfl rfl (p_loadO (by rfl) rfl (by first | (apply Has.own; (repeat' (first | exact Take.here | apply Take.there)); done) | exact Has.ro (by assumption)) (by rfl)) rfl ?_ | refine m_yes rfl rfl rfl (p_loadN (by rfl) rfl (by first | (apply Has.own; (repeat' (first | exact Take.here | apply Take.there)); done) | exact Has.ro (by assumption)) (by first | rfl | assumption)) rfl ?_
  refine m_call (Hin := []) (Hr := ?hr11) (R := ?rr11) rfl (wantedY rfl rfl) rfl rfl rfl ?hin11 ?hc11 ?hk11
  case hin11 => repeat' (first | exact Cover.nil | exact Take.here | apply Cover.cons | apply Take.there)
  case hc11 => intro ρ' hρ hR; exact cS (small_im (Take.ro (A := Blk m1 (.cells [encI 2, encI 2].toArray 3 (0, 0))) (by repeat' (first | exact Take.here | apply Take.there)) hR).blk (Take.ro (A := Blk m2 (.cells [encI 2].toArray 3 (0, 0))) (by repeat' (first | exact Take.here | apply Take.there)) hR).blk (Take.ro (A := Blk m6 (.cells smallR.toArray 32 (0, 0))) (by repeat' (first | exact Take.here | apply Take.there)) hR).blk (Take.ro (A := Blk m8 (.cells [.string (strB [102]), .slice (some ⟨m1, 0, none⟩) 2 2, .slice (some ⟨m2, 0, none⟩) 1 1, .int .i64 3, .slice none 0 0, .slice (some ⟨m6, 0, none⟩) 3 3].toArray 45 (0, 0))) (by repeat' (first | exact Take.here | apply Take.there)) hR).blk)
  rintro _ _ ⟨rfl, rfl⟩
  refine ⟨.none (by kernel_rfl), ?_⟩
  first | refine m_float0 rfl (fun _ _ => p_pickt rfl rfl) rfl ?_ | refine m_float0 rfl (fun _ _ => p_pickf rfl rfl) rfl ?_
  refine m_float0 rfl (fun _ _ => p_assign rfl) rfl ?_
  refine m_nil ?_
  refine g_qn ?_
  exact g_joinedA () trivial
 rintro _ -
 refine g_qt <| g_ret ?_
 exact g_post (Ho := []) (rs := [.tmp 0]) rfl (.tmp rfl .nil) ⟨rfl, rfl⟩ .nil
end Go.Proofs.YtcnfcoojmbjdlaaGreatDoor
/- Chapter 26, plain: the document's way to check an image. Conditions: none. -/
namespace Go.Z.Asm
set_option maxRecDepth 8000
set_option linter.unusedVariables false
set_option linter.unusedSimpArgs false
set_option linter.unusedSectionVars false
open Go Go.Z Go.Lib

def fieldsRT : List (List UInt8) := [[], [65, 66], [65, 66], [65, 66], [65, 66], [65, 66, 67], [65, 66, 67, 68], [66], [65, 66], [65, 66, 67, 68], [65, 66]]
def fieldsR (op : Int) : List UInt8 := if knownP op then fieldsRT.getD op.toNat [] else []
def lettersP : List UInt8 := [65, 66, 67, 68]
def fieldI (i : Ins) (c : UInt8) : Int := if c = 65 then i.2.1 else if c = 66 then i.2.2.1 else if c = 67 then i.2.2.2.1 else i.2.2.2.2
def zeroR (i : Ins) (c : UInt8) : Bool := (fieldsR i.1).contains c || decide (fieldI i c = 0)
def lastR (len at' : Int) (i : Ins) : Bool := if i.1 = 5 then decide (i.2.2.2.1 = 1 ∨ i.2.2.2.1 = 2) else if i.1 = 6 then decide (3 ≤ i.2.2.2.2 ∧ i.2.2.2.2 ≤ 16) else if i.1 = 7 ∨ i.1 = 8 then decide (at' < i.2.2.1 ∧ i.2.2.1 ≤ len) else true
theorem operands_one (x : Int) : operandsP x = 1 ↔ x = 1 ∨ x = 2 := by
 unfold operandsP
 split
 ·simpa
 ·split <;> omega
theorem operands_two (x : Int) : operandsP x = 2 ↔ 3 ≤ x ∧ x ≤ 16 := by
 unfold operandsP
 split
 ·omega
 ·split <;> omega
theorem form_ref (len at' : Int) (i : Ins) : formP len at' i = (decide (knownP i.1) && (lettersP.all (zeroR i) && lastR len at' i)) := by
 obtain ⟨op, A, B, C, D⟩ := i
 by_cases hk : knownP op
 ·unfold formP
  rw [decide_eq_true (p := knownP (op, A, B, C, D).1) hk, Bool.true_and, Bool.true_and]
  have h1 := operands_one C
  have h2 := operands_two D
  rw [Bool.eq_iff_iff]
  rcases op_cases hk with rfl | rfl | rfl | rfl | rfl | rfl | rfl | rfl | rfl | rfl <;> simp [opRow, knownP, opT, fieldsV, formT, lettersP, zeroR, lastR, fieldsR, fieldsRT, fieldI, h1, h2] <;> omega
 ·unfold formP
  rw [decide_eq_false (p := knownP (op, A, B, C, D).1) hk]; rfl
/-- the document's ranges, operation by operation -/
def rangesR (rts : List Rt) (k : Nat) (x : Rt) (i : Ins) : Bool :=
 let regs := x.2.2.2.1
 let mems : Int := x.2.2.2.2.1.length
 if i.1 = 1 then decide (withinP i.2.1 1 regs) && decide (-32768 ≤ i.2.2.1 ∧ i.2.2.1 ≤ 32767)
 else if i.1 = 2 ∨ i.1 = 5 then decide (withinP i.2.1 1 regs) && decide (withinP i.2.2.1 1 regs)
 else if i.1 = 3 then decide (withinP i.2.1 1 regs) && decide (withinP i.2.2.1 1 mems)
 else if i.1 = 4 then decide (withinP i.2.1 1 mems) && decide (withinP i.2.2.1 1 regs)
 else if i.1 = 6 then decide (withinP i.2.1 1 regs) && (decide (withinP i.2.2.1 1 regs) && decide (withinP i.2.2.2.1 1 regs))
 else if i.1 = 8 then decide (withinP i.2.1 1 regs)
 else if i.1 = 9 ∨ i.1 = 10 then
  if i.2.1 < 0 ∨ k ≤ i.2.1 then false
  else decide (withinP i.2.2.1 (calledP rts i.2.1).2.2.2.2.1.length mems) && (decide (i.1 = 10) || (decide (withinP i.2.2.2.1 (calledP rts i.2.1).2.1.length regs) && decide (withinP i.2.2.2.2 (calledP rts i.2.1).2.2.1.length regs)))
 else true
theorem ranges_ref (rts : List Rt) (k : Nat) (hk : k < rts.length) (i : Ins) : rangesP rts k i = rangesR rts k rts[k] i := by
 obtain ⟨op, A, B, C, D⟩ := i
 have hget : rts.getD k emptyRt = rts[k] := by rw [List.getD_eq_getElem?_getD, List.getElem?_eq_getElem hk]; rfl
 unfold rangesP
 rw [hget]
 dsimp only
 generalize rts[k] = x
 generalize hy : calledP rts A = y
 by_cases hn : knownP op
 ·rw [Bool.eq_iff_iff]
  rcases op_cases hn with rfl | rfl | rfl | rfl | rfl | rfl | rfl | rfl | rfl | rfl <;> simp [opRow, knownP, opT, fieldsV, rangeT, rangesR, hy]
  all_goals (by_cases h0 : A < 0 <;> by_cases h1 : (k : Int) ≤ A <;> simp [h0, h1] <;> omega)
 ·unfold rangesR opRow
  rw [if_neg hn]
  unfold knownP at hn
  dsimp only
  rw [if_neg (by omega), if_neg (by omega), if_neg (by omega), if_neg (by omega), if_neg (by omega), if_neg (by omega), if_neg (by omega)]
  rfl
def typedB (n : Nat) (t : Int) : Bool := decide (1 ≤ t ∧ t < 3 + (n : Int))
theorem typed_ref (enums : List Int) (l m : List Int) : (l ++ m).any (fun t => !decide (validP enums t)) = !(l.all (typedB enums.length) && m.all (typedB enums.length)) := by
 have h : (fun t => !decide (validP enums t)) = fun t => !typedB enums.length t := by
  funext t
  unfold typedB
  rw [decide_eq_decide.2 (show validP enums t ↔ 1 ≤ t ∧ t < 3 + (enums.length : Int) by unfold validP; omega)]
 rw [h, List.any_append]
 have h2 : ∀ l : List Int, l.any (fun t => !typedB enums.length t) = !l.all (typedB enums.length) := fun l => by rw [List.not_all_eq_any_not]
 rw [h2, h2]
 cases l.all (typedB enums.length) <;> cases m.all (typedB enums.length) <;> rfl
theorem contains_take {s : List UInt8} {c : UInt8} {k : Nat} (hk : k < s.length) (h : c ∉ s.take k) : (s[k] = c → s.contains c = true) ∧ (s[k] ≠ c → c ∉ s.take (k + 1)) := by
 refine ⟨fun e => by rw [← e]; simp, fun e => ?_⟩
 rw [List.take_add_one, List.getElem?_eq_getElem hk, Option.toList_some, List.mem_append, List.mem_singleton]
 rintro (h1 | h1)
 ·exact h h1
 ·exact e h1.symm
end Go.Z.Asm
/- Chapter 26, plain: reading line by line; the reader's states; a text is read back. Conditions: none. -/
namespace Go.Z.Asm
set_option maxRecDepth 8000
set_option linter.unusedVariables false
set_option linter.unusedSimpArgs false
set_option linter.unusedSectionVars false
open Go Go.Z Go.Lib Go.Z.Txt

/-- enumerations, whole routines, the routine that is being read, what the next line is -/
abbrev PS := List Int × List Rt × Rt × Nat
abbrev Res' := Except (Int × Int) Im
def endW : List UInt8 := [101, 110, 100]
def headW (w : Nat) : List UInt8 := [enumW, routW, inB, outW, regsW, initW].getD w []
def numsO (W : List (List UInt8)) : Option (List Int) := if W.any (fun w => (numA w).isNone) = true then none else some (numsV W)
def wordR (k : Nat) : List UInt8 := (opT.getD k ([], [], 0)).1
def opF (w : List UInt8) : Option Nat := (List.range 11).find? fun k => decide (wordR k = w ∧ w ≠ [])
def placesOf (op : Nat) : List Nat := (fieldsR op).map fun c => c.toNat - 65
def fillC (ps : List Nat) (v : List Int) : List Int := (ps.zip v).foldl (fun f q => f.set q.1 q.2) [0, 0, 0, 0]
def mkIns (op : Nat) (v : List Int) : Ins := ((op : Int), (fillC (placesOf op) v).getD 0 0, (fillC (placesOf op) v).getD 1 0, (fillC (placesOf op) v).getD 2 0, (fillC (placesOf op) v).getD 3 0)
def insV (W : List (List UInt8)) : Option Ins := match opF (W.headD []) with
 | none => none
 | some op => match numsO W.tail with
  | none => none
  | some v => if v.length = (placesOf op).length then some (mkIns op v) else none
def putW (p : PS) (v : List Int) : PS :=
 if p.2.2.2 = 0 then (v, p.2.1, p.2.2.1, 1)
 else (p.1, p.2.1, (if p.2.2.2 = 2 then (p.2.2.1.1, v, p.2.2.1.2.2) else if p.2.2.2 = 3 then (p.2.2.1.1, p.2.2.1.2.1, v, p.2.2.1.2.2.2) else if p.2.2.2 = 4 then (p.2.2.1.1, p.2.2.1.2.1, p.2.2.1.2.2.1, v.headD 0, p.2.2.1.2.2.2.2) else (p.2.2.1.1, p.2.2.1.2.1, p.2.2.1.2.2.1, p.2.2.1.2.2.2.1, v, p.2.2.1.2.2.2.2.2)), p.2.2.2 + 1)
def addI (p : PS) (i : Ins) : PS := (p.1, p.2.1, (p.2.2.1.1, p.2.2.1.2.1, p.2.2.1.2.2.1, p.2.2.1.2.2.2.1, p.2.2.1.2.2.2.2.1, p.2.2.1.2.2.2.2.2 ++ [i]), 6)
def endP (p : PS) : PS := (p.1, p.2.1 ++ [p.2.2.1], p.2.2.1, 1)
def newP (p : PS) (nm : List UInt8) : PS := (p.1, p.2.1, (nm, [], [], 0, [], []), 2)
def stepL (p : PS) (W : List (List UInt8)) : Option PS :=
 if [] ∈ W then none
 else if p.2.2.2 = 6 then (if W.headD [] = endW then (if W.length = 1 then some (endP p) else none) else (insV W).map (addI p))
 else if W.headD [] ≠ headW p.2.2.2 then none
 else if p.2.2.2 = 1 then (if W.length = 2 then some (newP p (W.tail.headD [])) else none)
 else match numsO W.tail with
  | none => none
  | some v => if p.2.2.2 = 4 ∧ v.length ≠ 1 then none else some (putW p v)
def readL (p : PS) : List (List UInt8) → Nat → Res'
 | [], n => .error ((n : Int) + 1, 4)
 | [l], n => if l = [] ∧ p.2.2.2 = 1 then .ok (p.1, p.2.1) else .error ((n : Int) + 1, 4)
 | l :: m :: r, n => match stepL p (pieces 32 l) with
  | none => .error ((n : Int) + 1, 5)
  | some q => readL q (m :: r) (n + 1)
theorem readL_one (p : PS) (l : List UInt8) (n : Nat) : readL p [l] n = if l = [] ∧ p.2.2.2 = 1 then .ok (p.1, p.2.1) else .error ((n : Int) + 1, 4) := rfl
theorem readL_cons (p : PS) (l m : List UInt8) (r : List (List UInt8)) (n : Nat) : readL p (l :: m :: r) n = match stepL p (pieces 32 l) with
  | none => .error ((n : Int) + 1, 5)
  | some q => readL q (m :: r) (n + 1) := rfl
theorem n4 : (4 : Int) ≠ 0 := by decide
theorem n5 : (5 : Int) ≠ 0 := by decide
def startP : PS := ([], [], emptyRt, 0)
/-- what a text is read as -/
def parseR (s : List UInt8) : Res' := readL startP (pieces 10 s) 0

/-- the reader's state says the same as the lines that are left -/
def Inv (ls : List (List UInt8)) (R : Res') (p : PS) (s : RS) : Prop := s.1 < ls.length ∧ (s.2 = 0 → R = readL p (ls.drop s.1) s.1) ∧ (s.2 ≠ 0 → R = .error ((s.1 : Int) + 1, s.2))
theorem drop_cases {ls : List (List UInt8)} {k : Nat} (h : k < ls.length) : (k + 1 = ls.length ∧ ls.drop k = [ls[k]]) ∨ (k + 1 < ls.length ∧ ∃ m r, ls.drop k = ls[k] :: m :: r ∧ ls.drop (k + 1) = m :: r) := by
 have e := List.drop_eq_getElem_cons h
 by_cases h1 : k + 1 < ls.length
 ·right
  have e2 := List.drop_eq_getElem_cons h1
  exact ⟨h1, ls[k + 1], ls.drop (k + 1 + 1), by rw [e, e2], e2⟩
 ·left
  refine ⟨by omega, ?_⟩
  rw [e, List.drop_eq_nil_of_le (by omega)]
theorem nextS_last {ls : List (List UInt8)} {s : RS} (h0 : s.2 = 0) (h : s.1 + 1 = ls.length) : nextS ls s = ([[]], (s.1, 4)) := by
 unfold nextS
 dsimp only
 have h1 : failS 4 s = (s.1, 4) := by unfold failS; rw [if_pos h0]
 have e : (if (ls.length : Int) - 1 ≤ s.1 then failS 4 s else s) = (s.1, 4) := by rw [if_pos (by omega), h1]
 rw [e]
 exact if_pos (show (4 : Int) ≠ 0 by decide)
theorem nextS_more {ls : List (List UInt8)} {s : RS} (h0 : s.2 = 0) (h : s.1 + 1 < ls.length) : nextS ls s = (pieces 32 (ls[s.1]'(by omega)), if [] ∈ pieces 32 (ls[s.1]'(by omega)) then (s.1, 5) else (s.1, 0)) := by
 unfold nextS
 dsimp only
 have h1 : failS 5 s = (s.1, 5) := by unfold failS; rw [if_pos h0]
 have hg : ls.getD s.1 [] = ls[s.1]'(by omega) := by rw [List.getD_eq_getElem?_getD, List.getElem?_eq_getElem (by omega)]; rfl
 have e : (if (ls.length : Int) - 1 ≤ s.1 then failS 4 s else s) = (s.1, 0) := by rw [if_neg (by omega), ← h0]
 have h1' : failS 5 (s.1, 0) = (s.1, 5) := rfl
 rw [e, hg, h1']
 exact if_neg (fun h : (0 : Int) ≠ 0 => h rfl)
theorem failS_zero {x : Int} {k : Nat} : failS x (k, 0) = (k, x) := rfl
theorem numbersS_eq0 (W : List (List UInt8)) (many : Int) (k : Nat) : numbersS W many (k, 0) = if numsO W = none ∨ (0 ≤ many ∧ (W.length : Int) ≠ many) then (k, 5) else (k + 1, 0) := by
 unfold numbersS numsO
 dsimp only
 rw [failS_zero]
 by_cases h1 : W.any (fun w => (numA w).isNone) = true
 ·rw [if_pos h1, if_pos h1, if_pos (c := (none : Option (List Int)) = none ∨ _) (.inl rfl)]
  by_cases h2 : 0 ≤ many ∧ (W.length : Int) ≠ many
  ·rw [if_pos h2]; rfl
  ·rw [if_neg h2]; rfl
 ·rw [if_neg h1, if_neg h1]
  by_cases h2 : 0 ≤ many ∧ (W.length : Int) ≠ many
  ·rw [if_pos h2, if_pos (.inr h2)]; rfl
  ·rw [if_neg h2, if_neg (fun h => by rcases h with h | h; cases h; exact h2 h)]; rfl
theorem numsO_len {W : List (List UInt8)} {v : List Int} (h : numsO W = some v) : v.length = W.length ∧ v = numsV W := by
 unfold numsO at h
 split at h
 ·cases h
 ·injection h with h; subst h; exact ⟨by simp [numsV], rfl⟩
/-- a line with a word and numbers -/
theorem inv_list {ls : List (List UInt8)} {R : Res'} {p : PS} {s : RS} (h : Inv ls R p s) {w : Nat} (hw : p.2.2.2 = w) (h1 : w ≠ 1) (h6 : w < 6) {v : List Int} (hv : (listS ls (headW w) (if w = 4 then 1 else -1) s).2 = 0 → v = numsV (nextS ls s).1.tail) :
  Inv ls R (putW p v) (listS ls (headW w) (if w = 4 then 1 else -1) s) := by
 obtain ⟨ha, hb, hc⟩ := h
 refine ⟨listS_lt _ _ ha, ?_⟩
 by_cases h0 : s.2 = 0
 ·have hR := hb h0
  rcases drop_cases ha with ⟨h2, h3⟩ | ⟨h2, m, r, h3, h4⟩
  ·rw [h3] at hR
   have hR' : R = .error ((s.1 : Int) + 1, 4) := by rw [hR, readL_one, if_neg (fun h => h1 (by rw [← hw]; exact h.2))]
   have hL : listS ls (headW w) (if w = 4 then 1 else -1) s = (s.1, 4) := by
    refine listS_bad ?_ n4
    rw [nextS_last h0 h2]
    dsimp only
    split
    ·rfl
    ·rfl
   rw [hL]
   exact ⟨fun h => by first | exact absurd h n4 | exact absurd h n5, fun _ => hR'⟩
  ·rw [h3] at hR
   have hn := nextS_more h0 h2
   rw [hn] at hv
   generalize hW : pieces 32 (ls[s.1]'(by omega)) = W at hn hv
   have hR' : R = match stepL p W with | none => .error ((s.1 : Int) + 1, 5) | some q => readL q (m :: r) (s.1 + 1) := by rw [hR, readL_cons, hW]
   have hstep : stepL p W = if [] ∈ W then none else if W.headD [] ≠ headW w then none else match numsO W.tail with | none => none | some v => if w = 4 ∧ v.length ≠ 1 then none else some (putW p v) := by
    unfold stepL
    rw [hw, if_neg (c := w = 6) (by omega), if_neg (c := w = 1) h1]
   have bad : stepL p W = none → ∀ t : RS, t = (s.1, 5) → (t.2 = 0 → R = readL (putW p v) (ls.drop t.1) t.1) ∧ (t.2 ≠ 0 → R = .error ((t.1 : Int) + 1, t.2)) := fun hb t ht => by
    subst ht
    exact ⟨fun h => absurd h n5, fun _ => by rw [hR', hb]⟩
   by_cases e1 : [] ∈ W
   ·refine bad (by rw [hstep, if_pos e1]) _ (listS_bad ?_ n5)
    rw [hn, if_pos e1]
    dsimp only
    split <;> rfl
   ·rw [if_neg e1] at hn hv
    by_cases e2 : W.headD [] ≠ headW w
    ·refine bad (by rw [hstep, if_neg e1, if_pos e2]) _ (listS_bad ?_ n5)
     rw [hn]
     dsimp only
     rw [if_pos e2]; rfl
    ·have hL : listS ls (headW w) (if w = 4 then 1 else -1) s = numbersS W.tail (if w = 4 then 1 else -1) (s.1, 0) := by
      unfold listS
      rw [hn]
      dsimp only
      rw [if_neg e2]
     rw [hL] at hv ⊢
     rw [numbersS_eq0] at hv ⊢
     rw [if_neg e1, if_neg e2] at hstep
     cases e3 : numsO W.tail with
     | none =>
      rw [if_pos (.inl rfl)]
      exact bad (by rw [hstep, e3]) _ rfl
     | some u =>
      obtain ⟨l1, l2⟩ := numsO_len e3
      rw [e3] at hstep hv
      dsimp only at hstep
      by_cases e4 : w = 4 ∧ u.length ≠ 1
      ·rw [if_pos (.inr (by rw [if_pos e4.1]; omega))]
       exact bad (by rw [hstep, if_pos e4]) _ rfl
      ·have e5 : ¬ (some u = none ∨ (0 ≤ (if w = 4 then (1 : Int) else -1) ∧ (W.tail.length : Int) ≠ (if w = 4 then 1 else -1))) := by
        rintro (h | h)
        ·cases h
        ·by_cases h4 : w = 4
         ·rw [if_pos h4] at h; exact e4 ⟨h4, by omega⟩
         ·rw [if_neg h4] at h; omega
       rw [if_neg e5] at hv ⊢
       rw [if_neg e4] at hstep
       have hvu : v = u := by rw [hv rfl, l2]
       subst hvu
       exact ⟨fun _ => by rw [hR', hstep, h4], fun h => absurd rfl h⟩
 ·have hL : listS ls (headW w) (if w = 4 then 1 else -1) s = s := listS_err h0
  rw [hL]
  exact ⟨fun h => absurd h h0, fun _ => hc h0⟩
/-- the first line of a routine -/
theorem inv_head {ls : List (List UInt8)} {R : Res'} {p : PS} {s : RS} (h : Inv ls R p s) (hw : p.2.2.2 = 1) (hm : moreS ls s = true) :
  Inv ls R (newP p ((nextS ls s).1.getLastD [])) (headS ls s) := by
 obtain ⟨ha, hb, hc⟩ := h
 refine ⟨headS_lt ha, ?_⟩
 unfold moreS at hm
 rw [Bool.and_eq_true, decide_eq_true_eq] at hm
 obtain ⟨h0, hm2⟩ := hm
 have hR := hb h0
 unfold headS
 rcases drop_cases ha with ⟨h2, h3⟩ | ⟨h2, m, r, h3, h4⟩
 ·rw [h3] at hR
  have hg : ls.getD s.1 [] = ls[s.1] := by rw [List.getD_eq_getElem?_getD, List.getElem?_eq_getElem ha]; rfl
  have hne : ls[s.1] ≠ [] := by
   rw [hg] at hm2
   rw [decide_eq_false (p := (s.1 : Int) < ls.length - 1) (by omega), Bool.false_or, decide_eq_true_eq] at hm2
   exact hm2
  have hR' : R = .error ((s.1 : Int) + 1, 4) := by rw [hR, readL_one, if_neg (fun h => hne h.1)]
  rw [nextS_last h0 h2]
  dsimp only
  rw [if_pos (.inl (by decide))]
  exact ⟨fun h => by first | exact absurd h n4 | exact absurd h n5, fun _ => hR'⟩
 ·rw [h3] at hR
  have hn := nextS_more h0 h2
  rw [hn]
  generalize hW : pieces 32 (ls[s.1]'(by omega)) = W at hn
  have hR' : R = match stepL p W with | none => .error ((s.1 : Int) + 1, 5) | some q => readL q (m :: r) (s.1 + 1) := by rw [hR, readL_cons, hW]
  have hstep : stepL p W = if [] ∈ W then none else if W.headD [] ≠ routW then none else if W.length = 2 then some (newP p (W.tail.headD [])) else none := by
   unfold stepL
   rw [hw, if_neg (c := 1 = 6) (by decide), if_pos (c := 1 = 1) rfl]; rfl
  dsimp only
  by_cases e1 : [] ∈ W
  ·rw [if_pos e1]
   rw [hstep, if_pos e1] at hR'
   split
   ·exact ⟨fun h => by first | exact absurd h n4 | exact absurd h n5, fun _ => hR'⟩
   ·exact ⟨fun h => by first | exact absurd h n4 | exact absurd h n5, fun _ => hR'⟩
  ·rw [if_neg e1]
   by_cases e2 : W.headD [] ≠ routW ∨ W.length ≠ 2
   ·have hb2 : stepL p W = none := by
     rw [hstep, if_neg e1]
     by_cases e3 : W.headD [] ≠ routW
     ·rw [if_pos e3]
     ·rw [if_neg e3, if_neg (by rcases e2 with h | h; exact absurd h e3; exact h)]
    rw [hb2] at hR'
    rw [if_pos e2]
    exact ⟨fun h => by first | exact absurd h n4 | exact absurd h n5, fun _ => hR'⟩
   ·rw [if_neg e2]
    have e3 : ¬ W.headD [] ≠ routW := fun h => e2 (.inl h)
    have e4 : W.length = 2 := Classical.byContradiction fun h => e2 (.inr h)
    rw [hstep, if_neg e1, if_neg e3, if_pos e4] at hR'
    have e5 : W.tail.headD [] = W.getLastD [] := by
     match W, e4 with
     | [a, b], _ => rfl
    refine ⟨fun _ => ?_, fun h => absurd rfl h⟩
    show R = readL (newP p (W.getLastD [])) (ls.drop (s.1 + 1)) (s.1 + 1)
    rw [hR', e5, h4]
/-- a line of a routine's code: the reader's state behind it, the instruction -/
def insS (ls : List (List UInt8)) (s : RS) : RS × Option Ins :=
 let q := nextS ls s
 if q.1.headD [] = endW then (numbersS q.1.tail 0 q.2, none)
 else match opF (q.1.headD []) with
  | none => (failS 5 q.2, none)
  | some op =>
   let t := numbersS q.1.tail (placesOf op).length q.2
   if t.2 ≠ 0 then (t, none) else (t, some (mkIns op (numsV q.1.tail)))
theorem opF_nil : opF [] = none := by decide
theorem inv_ins {ls : List (List UInt8)} {R : Res'} {p : PS} {s : RS} (h : Inv ls R p s) (hw : p.2.2.2 = 6) :
  match (insS ls s).2 with
  | some i => (insS ls s).1.2 = 0 ∧ (insS ls s).1.1 = s.1 + 1 ∧ Inv ls R (addI p i) (insS ls s).1
  | none => Inv ls R (endP p) (insS ls s).1 := by
 obtain ⟨ha, hb, hc⟩ := h
 unfold insS
 by_cases h0 : s.2 = 0
 ·have hR := hb h0
  rcases drop_cases ha with ⟨h2, h3⟩ | ⟨h2, m, r, h3, h4⟩
  ·rw [h3] at hR
   have hR' : R = .error ((s.1 : Int) + 1, 4) := by rw [hR, readL_one, if_neg (fun h => by rw [hw] at h; exact absurd h.2 (by decide))]
   rw [nextS_last h0 h2]
   dsimp only
   rw [if_neg (by decide), show ([[]] : List (List UInt8)).headD [] = [] from rfl, opF_nil]
   exact ⟨ha, fun h => absurd h n4, fun _ => hR'⟩
  ·rw [h3] at hR
   have hn := nextS_more h0 h2
   rw [hn]
   generalize hW : pieces 32 (ls[s.1]'(by omega)) = W at hn
   have hR' : R = match stepL p W with | none => .error ((s.1 : Int) + 1, 5) | some q => readL q (m :: r) (s.1 + 1) := by rw [hR, readL_cons, hW]
   have hstep : stepL p W = if [] ∈ W then none else if W.headD [] = endW then (if W.length = 1 then some (endP p) else none) else (insV W).map (addI p) := by
    unfold stepL
    rw [hw, if_pos (c := 6 = 6) rfl]
   have bad : stepL p W = none → Inv ls R (endP p) (s.1, 5) := fun hb => ⟨ha, fun h => absurd h n5, fun _ => by rw [hR', hb]⟩
   have h5 : numbersS W.tail 0 (s.1, 5) = (s.1, 5) := numbersS_err n5
   dsimp only
   by_cases e1 : [] ∈ W
   ·rw [if_pos e1]
    have hb2 := bad (by rw [hstep, if_pos e1])
    by_cases e2 : W.headD [] = endW
    ·rw [if_pos e2]; dsimp only; rw [h5]; exact hb2
    ·rw [if_neg e2]
     cases opF (W.headD []) with
     | none => exact hb2
     | some op =>
      dsimp only
      rw [numbersS_err (s := (s.1, 5)) n5, if_pos n5]
      exact hb2
   ·rw [if_neg e1] at hstep ⊢
    by_cases e2 : W.headD [] = endW
    ·rw [if_pos e2] at hstep ⊢
     dsimp only
     rw [numbersS_eq0]
     by_cases e3 : W.length = 1
     ·rw [if_pos e3] at hstep
      have e4 : W.tail = [] := List.eq_nil_of_length_eq_zero (by rw [List.length_tail]; omega)
      rw [e4, if_neg (by decide)]
      exact ⟨by dsimp only; omega, fun _ => by rw [hR', hstep, h4], fun h => absurd rfl h⟩
     ·rw [if_neg e3] at hstep
      have e4 : W.tail.length ≠ 0 := by
       have := pieces_ne 32 (ls[s.1]'(by omega))
       rw [hW] at this
       have := List.length_pos_iff.2 this
       rw [List.length_tail]; omega
      rw [if_pos (.inr ⟨Int.le_refl 0, by omega⟩)]
      exact bad hstep
    ·rw [if_neg e2] at hstep ⊢
     unfold insV at hstep
     cases e3 : opF (W.headD []) with
     | none =>
      rw [e3] at hstep
      exact bad hstep
     | some op =>
      rw [e3] at hstep
      dsimp only at hstep ⊢
      rw [numbersS_eq0]
      cases e4 : numsO W.tail with
      | none =>
       rw [e4] at hstep
       have e5 : (if (none : Option (List Int)) = none ∨ (0 ≤ ((placesOf op).length : Int) ∧ (W.tail.length : Int) ≠ (placesOf op).length) then ((s.1, 5) : RS) else (s.1 + 1, 0)) = (s.1, 5) := if_pos (.inl rfl)
       rw [e5]
       exact bad hstep
      | some v =>
       rw [e4] at hstep
       dsimp only at hstep
       obtain ⟨l1, l2⟩ := numsO_len e4
       by_cases e5 : v.length = (placesOf op).length
       ·rw [if_pos e5] at hstep
        have e6 : (if some v = none ∨ (0 ≤ ((placesOf op).length : Int) ∧ (W.tail.length : Int) ≠ (placesOf op).length) then ((s.1, 5) : RS) else (s.1 + 1, 0)) = (s.1 + 1, 0) := if_neg (by rintro (h | h); cases h; omega)
        rw [e6, ← l2]
        have e7 : (if ((s.1 + 1, 0) : RS).2 ≠ 0 then (((s.1 + 1, 0) : RS), (none : Option Ins)) else ((s.1 + 1, 0), some (mkIns op v))) = ((s.1 + 1, 0), some (mkIns op v)) := if_neg (fun h => h rfl)
        rw [e7]
        refine ⟨rfl, rfl, ?_⟩
        refine ⟨by dsimp only; omega, fun _ => ?_, fun h => absurd rfl h⟩
        rw [hR', hstep, h4]; rfl
       ·rw [if_neg e5] at hstep
        have e6 : (if some v = none ∨ (0 ≤ ((placesOf op).length : Int) ∧ (W.tail.length : Int) ≠ (placesOf op).length) then ((s.1, 5) : RS) else (s.1 + 1, 0)) = (s.1, 5) := if_pos (.inr ⟨by omega, by omega⟩)
        rw [e6]
        exact bad hstep
 ·rw [nextS_err h0]
  dsimp only
  rw [if_neg (by decide), show ([[]] : List (List UInt8)).headD [] = [] from rfl, opF_nil]
  dsimp only
  rw [failS_err h0]
  exact ⟨ha, fun h => absurd h h0, fun _ => hc h0⟩
/-- the reader stops -/
theorem inv_stop {ls : List (List UInt8)} {R : Res'} {p : PS} {s : RS} (h : Inv ls R p s) (hw : p.2.2.2 = 1) (hm : moreS ls s = false) : R = if s.2 = 0 then .ok (p.1, p.2.1) else .error ((s.1 : Int) + 1, s.2) := by
 obtain ⟨ha, hb, hc⟩ := h
 by_cases h0 : s.2 = 0
 ·rw [if_pos h0]
  unfold moreS at hm
  rw [decide_eq_true h0, Bool.true_and, Bool.or_eq_false_iff, decide_eq_false_iff_not, decide_eq_false_iff_not] at hm
  obtain ⟨h1, h2⟩ := hm
  have hg : ls.getD s.1 [] = ls[s.1] := by rw [List.getD_eq_getElem?_getD, List.getElem?_eq_getElem ha]; rfl
  rw [hg] at h2
  have h2' : ls[s.1] = [] := Classical.byContradiction h2
  rcases drop_cases ha with ⟨h3, h4⟩ | ⟨h3, _⟩
  ·rw [hb h0, h4, h2', readL_one, if_pos ⟨rfl, hw⟩]
  ·omega
 ·rw [if_neg h0]; exact hc h0
end Go.Z.Asm
/- Chapter 26: the table of operations in a world that meets the row's list. Conditions: none. -/
namespace Go.Proofs.YtcnfcoojmbjdlaaGreatDoor
set_option maxRecDepth 8000
set_option linter.unusedVariables false
set_option linter.unusedSimpArgs false
set_option linter.unusedSectionVars false
open Go Go.Z Go.Z.Asm Go.RowKit

def opD {H : Type} (r : List UInt8 × List Nat × Nat) : DataW H := .agg [.lit (.string r.1), Lib.tabData .i64 (r.2.1.map fun k : Nat => (k : Int)), .lit (.int .i64 r.2.2)]
def encO (r : List UInt8 × List Nat × Nat) : List Value := .string (strB r.1) :: (r.2.1.map fun k : Nat => Value.int .i64 k) ++ [.int .i64 r.2.2]
theorem ops_laid : (Rows.laid_synchrony_asm_operations : DataW Unit) = .agg (opT.map opD) := rfl
theorem opsC_enc : opsC = opT.flatMap encO := rfl
theorem op_fields : ∃ f0 f1 f2 : Field, Tryz.prog.underlying 62 = some (.struct #[f0, f1, f2]) ∧ f0.type = 9 ∧ f0.offset = 0 ∧ f1.type = 60 ∧ f1.offset = 1 ∧ f2.type = 3 ∧ f2.offset = 5 := ⟨_, _, _, Tryz.underlying62, rfl, rfl, rfl, rfl, rfl, rfl⟩
theorem op_chunk {W : World} {fuel : Nat} {c : List Value} {r : List UInt8 × List Nat × Nat} {p : List MemPlace} (h : DataW.trod (H := Unit) (fun _ => ()) Tryz.prog W 0 (fun _ => true) false fuel 62 c = some (opD r, p)) : c = encO r := by
 obtain ⟨f0, f1, f2, hu, t0, o0, t1, o1, t2, o2⟩ := op_fields
 have c6 : Tryz.prog.cellsOf 62 = 6 := by kernel_rfl
 have c1 : Tryz.prog.cellsOf 9 = 1 := by kernel_rfl
 have c4 : Tryz.prog.cellsOf 60 = 4 := by kernel_rfl
 have ci : Tryz.prog.cellsOf 3 = 1 := by kernel_rfl
 have us : Tryz.prog.underlying 9 = some .string := Tryz.underlying9
 have ui : Tryz.prog.underlying 3 = some (.int .i64) := Tryz.underlying3
 have ua : Tryz.prog.underlying 60 = some (.array 4 3) := Tryz.underlying60
 cases fuel with
 | zero => simp [DataW.trod] at h
 | succ fuel =>
  simp only [DataW.trod, hu, c6] at h
  split at h
  ·rename_i hl
   simp only [List.mapM_cons, List.mapM_nil, Option.bind_eq_bind, Option.pure_def, Option.map_eq_some_iff, Option.bind_eq_some_iff, Option.some.injEq, t0, o0, t1, o1, t2, o2, c1, c4, ci] at h
   obtain ⟨xs, ⟨x0, h0, ys, ⟨x1, h1, zs, ⟨x2, h2, us', hn, rfl⟩, rfl⟩, rfl⟩, he⟩ := h
   subst hn
   have hd := congrArg Prod.fst he
   simp only [List.map_cons, List.map_nil, opD, DataW.agg.injEq, List.cons.injEq, and_true] at hd
   obtain ⟨d0, d1, d2⟩ := hd
   obtain ⟨x0a, x0b⟩ := x0
   obtain ⟨x1a, x1b⟩ := x1
   obtain ⟨x2a, x2b⟩ := x2
   dsimp only at d0 d1 d2
   subst d0; subst d1; subst d2
   have e1 := Lib.cells_of_tab ua ui ci c4 h1
   obtain ⟨z, e2, e3, _⟩ := DataW.trod_int ui h2
   match c, hl with
   | [v0, v1, v2, v3, v4, v5], _ =>
    have e0 : v0 = .string (strB r.1) := by
     cases fuel with
     | zero => simp [DataW.trod] at h0
     | succ f =>
      simp only [DataW.trod, us, List.drop_zero, List.take_succ_cons, List.take_zero] at h0
      cases v0 with
      | string s =>
       dsimp only at h0
       split at h0
       ·have := congrArg (Option.map Prod.fst) h0
        simp at this
        unfold strB
        rw [← this]
       ·cases h0
      | _ => simp at h0
    have e1' : [v1, v2, v3, v4] = r.2.1.map fun k : Nat => Value.int .i64 k := by
     have := e1
     rw [List.map_map] at this
     exact this
    have e2' : v5 = .int .i64 z := by
     have : [v5] = [Value.int .i64 z] := e2
     exact (List.cons.inj this).1
    have e3' : z = (r.2.2 : Int) := by
     have := congrArg Prod.fst e3
     simp at this
     exact this.symm
    subst e0; subst e2'; subst e3'
    unfold encO
    rw [← e1']; rfl
  ·cases h
theorem ops_of {W : World} {rest : List (String × DataW Unit)} (h : laidMet Tryz.prog (("synchrony/asm.operations", Rows.laid_synchrony_asm_operations) :: rest) W) : OpsK (Old W) := by
 obtain ⟨ps, ⟨g, t, cs, fuel, p, q, hg, hty, hvar, hd, _, _⟩, _, hrow⟩ := h
 have hg' : Tryz.prog.globalNamed "synchrony/asm.operations" = some 0 := by kernel_rfl
 obtain rfl := Option.some.inj (hg'.symm.trans hg)
 have hty' : (Tryz.prog.globals[0]?).map (·.type) = some 93 := by kernel_rfl
 obtain rfl := Option.some.inj (hty'.symm.trans hty)
 have ua : Tryz.prog.underlying 93 = some (.array 11 62) := Tryz.underlying93
 have c6 : Tryz.prog.cellsOf 62 = 6 := by kernel_rfl
 have c66 : Tryz.prog.cellsOf 93 = 66 := by kernel_rfl
 obtain ⟨xs, m, -, hx, hl, hxl, hch⟩ := DataW.trod_array ua hd
 rw [c66] at hl
 simp only [c6] at hch
 have hxs : xs.map (·.1) = opT.map opD := by
  have := congrArg Prod.fst hx
  rw [ops_laid] at this
  simpa using this.symm
 have hcs : cs.toList = opsC := by
  have key : ∀ i, i < 11 → (cs.toList.drop (i * 6)).take 6 = encO (opT.getD i ([], [], 0)) := fun i hi => by
   have h1 := hch i hi
   have hi2 : i < opT.length := hi
   have h2 : (xs[i]?).map (·.1) = some (opD opT[i]) := by
    rw [← List.getElem?_map, hxs, List.getElem?_map, List.getElem?_eq_getElem hi2]; rfl
   cases hxi : xs[i]? with
   | none => rw [hxi] at h2; cases h2
   | some y =>
    rw [hxi] at h1 h2
    obtain ⟨y1, y2⟩ := y
    simp only [Option.map_some, Option.some.injEq] at h2
    subst h2
    rw [op_chunk h1, List.getD_eq_getElem?_getD, List.getElem?_eq_getElem hi2]; rfl
  have len6 : ∀ i, i < 11 → (encO (opT.getD i ([], [], 0))).length = 6 := by decide
  apply List.ext_getElem?
  intro i
  by_cases hi : i < 66
  ·have h1 := key (i / 6) (by omega)
   have h2 : cs.toList[i]? = ((cs.toList.drop (i / 6 * 6)).take 6)[i % 6]? := by
    rw [List.getElem?_take, if_pos (Nat.mod_lt _ (by decide)), List.getElem?_drop]
    congr 1; omega
   rw [h2, h1]
   have all : ∀ i, i < 66 → (encO (opT.getD (i / 6) ([], [], 0)))[i % 6]? = opsC[i]? := by
    intro i hi
    have e1 : opsC[i]? = ((opsC.drop (i / 6 * 6)).take 6)[i % 6]? := by
     rw [List.getElem?_take, if_pos (Nat.mod_lt _ (by decide)), List.getElem?_drop]
     congr 1; omega
    rw [e1]
    have hq : i / 6 < 11 := by omega
    generalize i / 6 = q at hq
    congr 1
    match q, hq with
    | 0, _ => rfl
    | 1, _ => rfl
    | 2, _ => rfl
    | 3, _ => rfl
    | 4, _ => rfl
    | 5, _ => rfl
    | 6, _ => rfl
    | 7, _ => rfl
    | 8, _ => rfl
    | 9, _ => rfl
    | 10, _ => rfl
    | q + 11, h => omega
   exact all i hi
  ·rw [List.getElem?_eq_none (by omega), List.getElem?_eq_none (by show 66 ≤ i; omega)]
 unfold World.var? at hvar
 rw [hg'] at hvar
 simp only [Option.bind_some] at hvar
 cases hb : W.heap[0]? with
 | none => rw [hb] at hvar; cases hvar
 | some o =>
  rw [hb] at hvar
  cases o with
  | cells c T fz =>
   refine ⟨T, fz, ?_⟩
   show W.heap[0]? = _
   have : c = cs := by simpa using hvar
   rw [hb, this, ← hcs]
  | _ => simp at hvar
end Go.Proofs.YtcnfcoojmbjdlaaGreatDoor
/- What the rows list of the library's variables: a world that has it; what a walk knows of it. Conditions: none. -/
namespace Go.Proofs.YtcnfcoojmbjdlaaGreatDoor
set_option maxRecDepth 8000
set_option linter.unusedVariables false
set_option linter.unusedSimpArgs false
set_option linter.unusedSectionVars false
open Go Go.Z Go.Z.Asm Go.RowKit

def synS : ByteArray := ⟨#[105, 110, 118, 97, 108, 105, 100, 32, 115, 121, 110, 116, 97, 120]⟩
def rngS : ByteArray := ⟨#[118, 97, 108, 117, 101, 32, 111, 117, 116, 32, 111, 102, 32, 114, 97, 110, 103, 101]⟩
/-- the cells of a listed array of numbers -/
def cellsD : DataW Unit → Array Value
 | .agg l => (l.flatMap fun d => match d with
  | .lit (.int k n) => [Value.int k n]
  | .agg m => m.map fun d => match d with | .lit (.int k n) => Value.int k n | _ => .int .i64 0
  | _ => []).toArray
 | _ => #[]
noncomputable def low : Nat := (World.holding Tryz.prog default ⟨#[], #[], []⟩).heap.size
noncomputable def laidWorld (os : Os) : World :=
 let w0 := World.holding Tryz.prog os ⟨#[.cells #[.string synS] 182, .cells #[.string rngS] 182], #[], []⟩
 let put (h : Array Obj) (g : Nat) (cs : Array Value) : Array Obj := h.modify g fun
  | .cells _ t frozen => .cells cs t frozen
  | o => o
 { w0 with heap := put (put (put (put (put (put (put (put w0.heap 0 opsC.toArray) 5 #[.iface 180 (.pointer (some ⟨low, 0, none⟩))]) 6 #[.iface 180 (.pointer (some ⟨low + 1, 0, none⟩))])
  2 (cellsD Rows.laid_internal_strconv_uint64pow10)) 7 (cellsD Rows.laid_math_bits_deBruijn32tab)) 8 (cellsD Rows.laid_math_bits_deBruijn64tab)) 4 (cellsD Rows.laid_unicode_utf8_acceptRanges)) 3 (cellsD Rows.laid_unicode_utf8_first) }
set_option maxRecDepth 1000000 in
theorem laidWorld_met (os : Os) (args : Array Value) : laidMet Tryz.prog Rows.asmSameRow.laid ((laidWorld os).forCall (fun _ _ => 0) ⟨#[], args, []⟩).memory :=
 laidMet_of_run' 10 (by kernel_rfl) (by kernel_rfl)

theorem knows_var {n : String} {W : World} {cs : Array Value} (h : W.var? Tryz.prog n = some cs) : Knows (Old W) fun w => w.var? Tryz.prog n = some cs := by
 intro w hw
 unfold World.var? at h ⊢
 cases hg : Tryz.prog.globalNamed n with
 | none => rw [hg] at h; cases h
 | some g =>
  rw [hg] at h
  simp only [Option.bind_some] at h ⊢
  cases hb : W.heap[g]? with
  | none => rw [hb] at h; cases h
  | some o => rw [hw g o hb]; rw [hb] at h; exact h
theorem knows_cell {W : World} {g : Nat} {v : Value} (h : W.cell? ⟨g, 0, none⟩ = some v) : Knows (Old W) fun w => w.cell? ⟨g, 0, none⟩ = some v := by
 intro w hw
 unfold World.cell? at h ⊢
 cases hb : W.heap[g]? with
 | none => simp [hb] at h
 | some o => have := hw g o hb; simp only [hb, this] at h ⊢; exact h
theorem starErr : "*" ++ "errors.errorString" = "*errors.errorString" := by decide
theorem rowErr (u : TypeId) (h : Tryz.prog.typeName? 3 u = some "*errors.errorString") : u = 180 := 
 typeName_ptr_named (nm := "errors.errorString") (by rw [starErr]; kernel_rfl) (by kernel_rfl) (by decide) u (by rw [starErr]; exact h)
theorem libA_of {W : World} (hL : laidMet Tryz.prog Rows.asmSameRow.laid W) (hS : W.ShapedOpen Tryz.prog) : LibA (Old W) := by
 have h2 := laidMet.tail (laidMet.tail hL)
 have ht := Lib.tabIs_of_head (name := "internal/strconv.uint64pow10") (k := .u64) (zs := Lib.pow10Tab) (g := 2) (t := 164) (e := 122) (n := 20) (by kernel_rfl) (by kernel_rfl) Tryz.underlying164 Tryz.underlying122 (by kernel_rfl) (by kernel_rfl) h2
 have h3 := laidMet.tail h2
 obtain ⟨a1, s1, hv1, -, -, -⟩ := laid_sentinel (laidMet.tail h3) (g := 6) (by kernel_rfl) (ti := 127) (by kernel_rfl) Tryz.underlying127 rowErr Tryz.underlying180 Tryz.underlying182 rfl rfl Tryz.underlying9 (by kernel_rfl) (by kernel_rfl)
 obtain ⟨a0, s0, hv0, -, -, -⟩ := laid_sentinel (laidMet.tail (laidMet.tail h3)) (g := 5) (by kernel_rfl) (ti := 127) (by kernel_rfl) Tryz.underlying127 rowErr Tryz.underlying180 Tryz.underlying182 rfl rfl Tryz.underlying9 (by kernel_rfl) (by kernel_rfl)
 have ho := ops_of (laidMet.tail (laidMet.tail (laidMet.tail h3)))
 obtain ⟨m, hm⟩ := cell_of_shapedOpen_int (g := 1) (t := 3) (zero := #[.int .i64 0]) (k := .i64) hS (of_decide_eq_true (by kernel_rfl)) (by kernel_rfl) rfl (by kernel_rfl) (by kernel_rfl) Tryz.underlying3
 exact ⟨ho, knows_var ht, ⟨_, _, knows_var hv0⟩, ⟨_, _, knows_var hv1⟩, m, knows_cell hm⟩
end Go.Proofs.YtcnfcoojmbjdlaaGreatDoor
namespace Go.Z
set_option maxRecDepth 8000
set_option linter.unusedVariables false
set_option linter.unusedSimpArgs false
set_option linter.unusedSectionVars false
open Go
variable {H : Type} {enc : TypeId × Value → H}
/-- the wrap of a row with listed variables, the world's shape kept -/
theorem wrap_shaped {a : Assume} {C : Checked} {os : Os} {f : FuncId} {fn : Func} {s : ChangeSpec} {conds : List PathCond} {apart fresh handsOn again : Bool} {X : World → Array Value → Prop}
  (hX : ∀ (w w' : World) (args : Array Value), w.heap = w'.heap → X w args → X w' args)
  (own : ownKnob C.prog.godebug = none) (started : os.Started) (noInit : C.prog.inits.idxOf? f = none) (hfn : C.prog.funcs[f]? = some fn)
  (witness : ∃ (w : World) (tape : Tape) (i : Input), w.os = os ∧ (w.forCall tape i).Shaped C.prog ∧ i.vars = [] ∧ Input.okWide C.prog (w.forCall tape i) .any w.heap.size f i ∧
   ((s.pre enc C.prog fn conds apart (w.forCall tape i).memory i.args ∧ X (w.forCall tape i).memory i.args) ∧ sizedMet enc C.prog fn (OpenSpec.ofChange s) apart (w.forCall tape i).memory i.args) ∧ a.holds C.prog (lone (Frame.enter C.prog f i.args .normal) [] (w.forCall tape i)))
  (contract : ∀ (W : World) (base : Nat) (args : Array Value) (ds gs : List (DataW H)) (before : List MemPlace),
   (∀ (j : Nat) t v, fn.params[j]? = some t → args[j]? = some v → Value.okWide C.prog W .any base t v) →
   DataW.Whole enc C.prog fn.params.toList s.vars apart W args.toList ds gs before →
   conds.all (PathCond.test C.prog ⟨fn.params.toList, ds, s.plain.varTypes C.prog, gs⟩) = true →
   (DataW.weightsEach C.prog (fn.params.toList ++ s.plain.varTypes C.prog) (ds ++ gs)).all (· ≤ reachBytes) = true → X W args → W.ShapedOpen C.prog →
   a.holds C.prog (lone (Frame.enter C.prog f args .normal) [] W) →
   Calls C.prog f args W fun e W' => ∃ v, e = .returned v ∧ s.post enc C.prog fn apart fresh handsOn again W args v W') :
  ReturnsInHanded a C os f .any (fun w args => (s.pre enc C.prog fn conds apart w args ∧ X w args) ∧ sizedMet enc C.prog fn (OpenSpec.ofChange s) apart w args) (s.post enc C.prog fn apart fresh handsOn again) := by
 refine returnsInHanded_of_calls own started noInit witness ?_
 intro w tape i _ hsh _ hok hpre hholds
 obtain ⟨_, _, _, fn', hfn', _, _, _, _, hval⟩ := hok
 have e : fn' = fn := Option.some.inj (hfn'.symm.trans hfn)
 subst e
 obtain ⟨⟨⟨ds, gs, before, hw, hc⟩, hx⟩, hz⟩ := hpre
 have hw' := DataW.Whole.of_heap (w' := w.forCall tape i) (by rfl) hw
 refine (contract (w.forCall tape i) w.heap.size i.args ds gs before hval hw' hc (hz.weights hw) (hX _ _ _ (by rfl) hx) hsh hholds).mono fun e W' ⟨v, he, hp⟩ => ?_
 subst he
 exact ChangeSpec.post_blind hp
end Go.Z
/- Chapter 26: images, instructions as arguments. Conditions: none. -/
namespace Go.Z.Asm
set_option maxRecDepth 8000
set_option linter.unusedVariables false
set_option linter.unusedSimpArgs false
set_option linter.unusedSectionVars false
open Go Go.Z Go.Lib
theorem flat_at {k : Nat} : ∀ {xss : List (List Value)}, (∀ c ∈ xss, c.length = k) → ∀ i (hi : i < xss.length), (xss.flatten.drop (i * k)).take k = xss[i] ∧ i * k + k ≤ xss.flatten.length
 | c :: r, h, 0, _ => by
  have hc := h c List.mem_cons_self
  rw [Nat.zero_mul, List.drop_zero, List.flatten_cons]
  exact ⟨by rw [List.take_append_of_le_length (by omega), List.take_of_length_le (by omega)]; rfl, by rw [List.length_append]; omega⟩
 | c :: r, h, i + 1, hi => by
  have hc := h c List.mem_cons_self
  obtain ⟨h1, h2⟩ := flat_at (fun c hc => h c (List.mem_cons_of_mem _ hc)) i (by simpa using hi)
  have e : (i + 1) * k = c.length + i * k := by rw [hc, Nat.add_mul]; omega
  rw [List.flatten_cons, e, List.drop_append, List.drop_of_length_le (by omega), List.nil_append, Nat.add_sub_cancel_left]
  exact ⟨h1, by rw [List.length_append]; omega⟩
theorem rts_of {ρ : Nat → Obj → Prop} {ra : Option Addr} {xss : List (List Value)} (h6 : ∀ c ∈ xss, c.length = 6) (hr : RSl ρ 6 ra xss.length xss.flatten) {rts : List Rt} (hl : rts.length = xss.length) (hx : ∀ k (h1 : k < xss.length) (h2 : k < rts.length), RtR ρ xss[k] rts[k]) : RtsR ρ ra rts := fun h0 => by
 obtain ⟨_, b, off, cs, T, fz, hb⟩ := hr
 obtain ⟨r1, r2, r3⟩ := hb (by omega)
 refine ⟨b, off, cs, T, fz, r1, r2, fun k hk => ?_⟩
 have hk' : k < xss.length := by omega
 obtain ⟨e1, e2⟩ := flat_at h6 k hk'
 refine ⟨xss[k], hx k hk' hk, by rw [sub_of r3 (by decide) e2, e1], fun j v hj => ?_⟩
 have hj6 : j < 6 := by
  have := (List.getElem?_eq_some_iff.1 hj).1
  rw [h6 _ (List.getElem_mem hk')] at this; exact this
 rw [Nat.add_assoc]
 refine r3 _ _ ?_
 rw [← e1, List.getElem?_take, if_pos hj6, List.getElem?_drop] at hj
 exact hj
theorem choose_rows {α β : Type} {q : α → β → Prop} : ∀ {l : List α}, (∀ c ∈ l, ∃ x, q c x) → ∃ r : List β, r.length = l.length ∧ ∀ k (h1 : k < l.length) (h2 : k < r.length), q l[k] r[k]
 | [], _ => ⟨[], rfl, fun k h => absurd h (Nat.not_lt_zero k)⟩
 | c :: l, h => by
  obtain ⟨x, hx⟩ := h c List.mem_cons_self
  obtain ⟨r, hl, hr⟩ := choose_rows fun c hc => h c (List.mem_cons_of_mem _ hc)
  refine ⟨x :: r, by simp [hl], fun k h1 h2 => ?_⟩
  match k with
  | 0 => exact hx
  | k + 1 => exact hr k (by simpa using h1) (by simpa using h2)
end Go.Z.Asm
namespace Go.Proofs.YtcnfcoojmbjdlaaGreatDoor
set_option maxRecDepth 8000
set_option linter.unusedVariables false
set_option linter.unusedSimpArgs false
set_option linter.unusedSectionVars false
open Go Go.Z Go.Z.Asm
theorem rdw_int1 {H : Type} {enc : TypeId × Value → H} {W : World} {c : List Value} (h : Rdw enc Tryz.prog W 3 c) : ∃ x : Int, c = [encI x] ∧ I64 x := by
 obtain ⟨x, e, w⟩ := rd_int Tryz.underlying3 h.rdx
 exact ⟨x, e, wf_i64 w⟩
theorem rdw_ints {H : Type} {enc : TypeId × Value → H} {W : World} {c : List Value} (h : Rdw enc Tryz.prog W 22 c) : ∃ (a : Option Addr) (cap : Nat) (l : List Int), c = [.slice a l.length cap] ∧ RSl (Old W) 1 a l.length (l.map encI) ∧ l.length ≤ 17592186044416 ∧ ∀ x ∈ l, I64 x := by
 obtain ⟨a, cap, xss, h1, h2, h3, h4, h5, h6⟩ := rdw_slice (size := 1) Tryz.underlying22 (by kernel_rfl) (by decide) h
 obtain ⟨l, rfl, hl⟩ := rows_with I64 (fun x => [encI x]) (xss := xss) fun c hc => rdw_int1 (h4 c hc).2
 rw [show Tryz.prog.bytesOf 3 = 8 by kernel_rfl] at h6
 rw [List.length_map] at h1 h2 h5
 refine ⟨a, cap, l, h1, ?_, by omega, hl⟩
 rw [← List.flatMap_def, map_flat] at h5
 exact h5
theorem rdw_ins {H : Type} {enc : TypeId × Value → H} {W : World} {c : List Value} (h : Rdw enc Tryz.prog W 32 c) : ∃ i : Ins, c = encIns i ∧ I64 i.1 ∧ I64 i.2.1 ∧ I64 i.2.2.1 ∧ I64 i.2.2.2.1 ∧ I64 i.2.2.2.2 := by
 obtain ⟨hl, hf⟩ := rdw_struct Tryz.underlying32 h
 have h0 := hf 0 _ rfl
 have h1 := hf 1 _ rfl
 have h2 := hf 2 _ rfl
 have h3 := hf 3 _ rfl
 have h4 := hf 4 _ rfl
 have hl2 : c.length = 5 := hl
 match c, hl2 with
 | [u0, u1, u2, u3, u4], _ =>
  obtain ⟨a0, e0, i0⟩ := rdw_int1 (show Rdw enc Tryz.prog W 3 [u0] from h0)
  obtain ⟨a1, e1, i1⟩ := rdw_int1 (show Rdw enc Tryz.prog W 3 [u1] from h1)
  obtain ⟨a2, e2, i2⟩ := rdw_int1 (show Rdw enc Tryz.prog W 3 [u2] from h2)
  obtain ⟨a3, e3, i3⟩ := rdw_int1 (show Rdw enc Tryz.prog W 3 [u3] from h3)
  obtain ⟨a4, e4, i4⟩ := rdw_int1 (show Rdw enc Tryz.prog W 3 [u4] from h4)
  cases e0; cases e1; cases e2; cases e3; cases e4
  exact ⟨(a0, a1, a2, a3, a4), rfl, i0, i1, i2, i3, i4⟩
theorem rdw_code {H : Type} {enc : TypeId × Value → H} {W : World} {c : List Value} (h : Rdw enc Tryz.prog W 43 c) : ∃ (a : Option Addr) (cap : Nat) (l : List Ins), c = [.slice a l.length cap] ∧ RSl (Old W) 5 a l.length (l.flatMap encIns) ∧ l.length ≤ 17592186044416 ∧ ∀ i ∈ l, I64 i.1 ∧ I64 i.2.1 ∧ I64 i.2.2.1 ∧ I64 i.2.2.2.1 ∧ I64 i.2.2.2.2 := by
 obtain ⟨a, cap, xss, h1, h2, h3, h4, h5, h6⟩ := rdw_slice (size := 5) Tryz.underlying43 (by kernel_rfl) (by decide) h
 obtain ⟨l, rfl, hl⟩ := rows_with (fun i : Ins => I64 i.1 ∧ I64 i.2.1 ∧ I64 i.2.2.1 ∧ I64 i.2.2.2.1 ∧ I64 i.2.2.2.2) encIns (xss := xss) fun c hc => rdw_ins (h4 c hc).2
 rw [show Tryz.prog.bytesOf 32 = 40 by kernel_rfl] at h6
 rw [List.length_map] at h1 h2 h5
 refine ⟨a, cap, l, h1, ?_, by omega, hl⟩
 rw [List.flatMap_def]
 exact h5
theorem rdw_rt {H : Type} {enc : TypeId × Value → H} {W : World} {c : List Value} (h : Rdw enc Tryz.prog W 45 c) : ∃ x : Rt, RtR (Old W) c x ∧ RtOk x := by
 obtain ⟨hl, hf⟩ := rdw_struct Tryz.underlying45 h
 have h0 := hf 0 _ rfl
 have h1 := hf 1 _ rfl
 have h2 := hf 2 _ rfl
 have h3 := hf 3 _ rfl
 have h4 := hf 4 _ rfl
 have h5 := hf 5 _ rfl
 have hl2 : c.length = 6 := hl
 match c, hl2 with
 | [u0, u1, u2, u3, u4, u5], _ =>
  obtain ⟨s, e0, i0⟩ := rd_string Tryz.underlying9 (show Rdw enc Tryz.prog W 9 [u0] from h0).rdx
  obtain ⟨a1, c1, l1, e1, r1, n1, i1⟩ := rdw_ints (show Rdw enc Tryz.prog W 22 [u1] from h1)
  obtain ⟨a2, c2, l2, e2, r2, n2, i2⟩ := rdw_ints (show Rdw enc Tryz.prog W 22 [u2] from h2)
  obtain ⟨a3, e3, i3⟩ := rdw_int1 (show Rdw enc Tryz.prog W 3 [u3] from h3)
  obtain ⟨a4, c4, l4, e4, r4, n4, i4⟩ := rdw_ints (show Rdw enc Tryz.prog W 22 [u4] from h4)
  obtain ⟨a5, c5, l5, e5, r5, n5, i5⟩ := rdw_code (show Rdw enc Tryz.prog W 43 [u5] from h5)
  cases e0; cases e1; cases e2; cases e3; cases e4; cases e5
  have hm : maxLen = 9223372036854775807 := rfl
  exact ⟨(s.data.toList, l1, l2, a3, l4, l5), ⟨a1, c1, a2, c2, a4, c4, a5, c5, rfl, r1, r2, r4, r5⟩, ⟨by have hs : s.data.toList.length = s.size := rfl; dsimp only; omega, n1, n2, n4, n5, i1, i2, i3, i4, i5⟩⟩
theorem rd_image {H : Type} {enc : TypeId × Value → H} {W : World} {c : List Value} (h : Rdw enc Tryz.prog W 25 c) : ∃ (ea ra : Option Addr) (ec rc : Nat) (im : Im), c = [.slice ea im.1.length ec, .slice ra im.2.length rc] ∧ ImI (Old W) ea ra im := by
 obtain ⟨hl, hf⟩ := rdw_struct Tryz.underlying25 h
 have h0 := hf 0 _ rfl
 have h1 := hf 1 _ rfl
 have hl2 : c.length = 2 := hl
 match c, hl2 with
 | [u0, u1], _ =>
  obtain ⟨a0, c0, l0, e0, r0, n0, i0⟩ := rdw_ints (show Rdw enc Tryz.prog W 22 [u0] from h0)
  obtain ⟨a, cap, xss, k1, k2, k3, k4, k5, k6⟩ := rdw_slice (size := 6) Tryz.underlying23 (by kernel_rfl) (by decide) (show Rdw enc Tryz.prog W 23 [u1] from h1)
  rw [show Tryz.prog.bytesOf 45 = 120 by kernel_rfl] at k6
  obtain ⟨rts, hlr, hr⟩ := choose_rows (q := fun c x => RtR (Old W) c x ∧ RtOk x) (l := xss) fun c hc => rdw_rt (k4 c hc).2
  cases e0; cases k1
  refine ⟨a0, a, c0, cap, (l0, rts), by rw [← hlr], r0, rts_of (fun c hc => (k4 c hc).1) k5 hlr fun k h1 h2 => (hr k h1 h2).1, n0, by dsimp only; omega, i0, fun x hx => ?_⟩
  obtain ⟨k, hk, rfl⟩ := List.mem_iff_getElem.1 hx
  exact (hr k (by rw [← hlr]; exact hk) hk).2
end Go.Proofs.YtcnfcoojmbjdlaaGreatDoor
/- Chapter 26: the statements on equality, and on accepted images. Conditions: what the library's variables hold (LibA). -/
namespace Go.Proofs.YtcnfcoojmbjdlaaGreatDoor
set_option maxRecDepth 8000
set_option linter.unusedVariables false
set_option linter.unusedSimpArgs false
set_option linter.unusedSectionVars false
open Go Go.Z Go.Z.Asm Go.RowKit

theorem asame_ok {ρ : Nat → Obj → Prop} (hk : LibA ρ) {ea ra eb rb : Option Addr} {ec rc ed rd : Nat} {x y : Im} (hx : ImI ρ ea ra x) (hy : ImI ρ eb rb y) :
  Con Tryz.prog ρ 3 #[.agg #[.slice ea x.1.length ec, .slice ra x.2.length rc], .agg #[.slice eb y.1.length ed, .slice rb y.2.length rd]] [] (fun v _ => v = .bool true) := by
 have cS : ∀ {ρ' : Nat → Obj → Prop}, (∀ b o, ρ b o → ρ' b o) → Con Tryz.prog ρ' 12 #[.agg #[.slice ea x.1.length ec, .slice ra x.2.length rc], .agg #[.slice ea x.1.length ec, .slice ra x.2.length rc]] [] (fun v H => v = .bool true ∧ H = []) := fun hρ => by
  have := sameA_ok (ec := ec) (rc := rc) (ed := ec) (rd := rc) (hx.mono hρ) (hx.mono hρ)
  rw [decide_eq_true (p := x = x) rfl] at this
  exact this
 refine con_intro Tryz.func3 Tryz.call3 rfl Tryz.ntmps3 rfl (L := [(0, _), (1, _)]) rfl fun w hh => ?_
 refine g_seq <| g_region ?_
 refine g_eff (e_box rfl (by rfl)) rfl (fun _ _ => ?_)
 rintro ⟨b2, rfl, rfl⟩
 refine g_eff (e_box rfl (by rfl)) rfl (fun _ _ => ?_)
 rintro ⟨b3, rfl, rfl⟩
 refine g_as ?_
 refine g_nil <| g_qt <| g_seq <| g_seq <| g_region ?_
 first | refine g_pure (p_loadO (by rfl) rfl (by first | (apply Has.own; (repeat' (first | exact Take.here | apply Take.there)); done) | exact Has.ro (by assumption)) (by rfl)) rfl ?_ | refine g_pure (p_loadN (by rfl) rfl (by first | (apply Has.own; (repeat' (first | exact Take.here | apply Take.there)); done) | exact Has.ro (by assumption)) (by first | rfl | assumption)) rfl ?_
 refine g_call (Hin := []) (Hr := ?hr1) (R := ?rr1) rfl rfl rfl ?hin1 ?hc1 ?hk1
 case hin1 => repeat' (first | exact Cover.nil | exact Take.here | apply Cover.cons | apply Take.there)
 case hc1 => intro ρ' hρ hR; exact heavy_ok (ec := ec) (rc := rc) (hx.mono hρ)
 rintro _ _ ⟨hb6, rfl, rfl⟩
 refine g_mv ?_
 refine g_split rfl rfl (fun h1 => ?_) (fun h1 => ?_)
 ·refine g_noA ?_
  refine g_noA ?_
  first | refine g_pkt ?_ | refine g_pkf ?_
  refine g_nil <| g_qt ?_
  refine g_ift rfl ?_
  refine g_seq <| g_region ?_
  refine g_call (Hin := []) (Hr := ?hr2) (R := ?rr2) rfl rfl rfl ?hin2 ?hc2 ?hk2
  case hin2 => repeat' (first | exact Cover.nil | exact Take.here | apply Cover.cons | apply Take.there)
  case hc2 => intro ρ' hρ hR; exact lives_ok (hk.mono hρ)
  rintro _ _ ⟨rfl, rfl⟩
  refine g_as ?_
  refine g_nil <| g_qt <| g_ret <| g_qt_ret ?_
  exact g_postA (rs := [.tmp 4]) rfl (.tmp rfl .nil) rfl
 ·refine g_yesA ?_
  first | refine g_pure (p_loadO (by rfl) rfl (by first | (apply Has.own; (repeat' (first | exact Take.here | apply Take.there)); done) | exact Has.ro (by assumption)) (by rfl)) rfl ?_ | refine g_pure (p_loadN (by rfl) rfl (by first | (apply Has.own; (repeat' (first | exact Take.here | apply Take.there)); done) | exact Has.ro (by assumption)) (by first | rfl | assumption)) rfl ?_
  refine g_yesA ?_
  refine g_call (Hin := []) (Hr := ?hr3) (R := ?rr3) rfl rfl rfl ?hin3 ?hc3 ?hk3
  case hin3 => repeat' (first | exact Cover.nil | exact Take.here | apply Cover.cons | apply Take.there)
  case hc3 => intro ρ' hρ hR; exact heavy_ok (ec := ed) (rc := rd) (hy.mono hρ)
  rintro _ _ ⟨hb9, rfl, rfl⟩
  first | refine g_pkt ?_ | refine g_pkf ?_
  refine g_nil <| g_qt ?_
  refine g_ifL rfl (fun h3 => ?_) (fun h3 => ?_)
  ·refine g_seq <| g_region ?_
   refine g_call (Hin := []) (Hr := ?hr4) (R := ?rr4) rfl rfl rfl ?hin4 ?hc4 ?hk4
   case hin4 => repeat' (first | exact Cover.nil | exact Take.here | apply Cover.cons | apply Take.there)
   case hc4 => intro ρ' hρ hR; exact lives_ok (hk.mono hρ)
   rintro _ _ ⟨rfl, rfl⟩
   refine g_as ?_
   refine g_nil <| g_qt <| g_ret <| g_qt_ret ?_
   exact g_postA (rs := [.tmp 4]) rfl (.tmp rfl .nil) rfl
  ·refine g_skip <| g_qt <| g_seq ?_
   refine m_begin0 (.fl 0 1 (.fl 1 1 (.fl 3 1 (.fl 4 1 (.ef 2 (.ef 5 (.fl 6 0 (.fl 7 0 (.fl 8 1 (.fl 9 1 (.ef 10 (.fl 11 0 (.fl 12 0 (.ef 13 (.fl 14 0 (.fl 15 0 .done)))))))))))))))) (by kernel_rfl) (by kernel_rfl) ?_
   first | refine m_float rfl (p_loadO (by rfl) rfl (by first | (apply Has.own; (repeat' (first | exact Take.here | apply Take.there)); done) | exact Has.ro (by assumption)) (by rfl)) rfl ?_ | refine m_float rfl (p_loadN (by rfl) rfl (by first | (apply Has.own; (repeat' (first | exact Take.here | apply Take.there)); done) | exact Has.ro (by assumption)) (by first | rfl | assumption)) rfl ?_
   first | refine m_float rfl (p_loadO (by rfl) rfl (by first | (apply Has.own; (repeat' (first | exact Take.here | apply Take.there)); done) | exact Has.ro (by assumption)) (by rfl)) rfl ?_ | refine m_float rfl (p_loadN (by rfl) rfl (by first | (apply Has.own; (repeat' (first | exact Take.here | apply Take.there)); done) | exact Has.ro (by assumption)) (by first | rfl | assumption)) rfl ?_
   first | refine m_float rfl (p_loadO (by rfl) rfl (by first | (apply Has.own; (repeat' (first | exact Take.here | apply Take.there)); done) | exact Has.ro (by assumption)) (by rfl)) rfl ?_ | refine m_float rfl (p_loadN (by rfl) rfl (by first | (apply Has.own; (repeat' (first | exact Take.here | apply Take.there)); done) | exact Has.ro (by assumption)) (by first | rfl | assumption)) rfl ?_
   first | refine m_float rfl (p_loadO (by rfl) rfl (by first | (apply Has.own; (repeat' (first | exact Take.here | apply Take.there)); done) | exact Has.ro (by assumption)) (by rfl)) rfl ?_ | refine m_float rfl (p_loadN (by rfl) rfl (by first | (apply Has.own; (repeat' (first | exact Take.here | apply Take.there)); done) | exact Has.ro (by assumption)) (by first | rfl | assumption)) rfl ?_
   refine m_call (Hin := []) (Hr := ?hr5) (R := ?rr5) rfl wantedN rfl rfl rfl ?hin5 ?hc5 ?hk5
   case hin5 => repeat' (first | exact Cover.nil | exact Take.here | apply Cover.cons | apply Take.there)
   case hc5 => intro ρ' hρ hR; exact sameA_ok (ec := ec) (rc := rc) (ed := ed) (rd := rd) (hx.mono hρ) (hy.mono hρ)
   rintro _ _ ⟨rfl, rfl⟩
   refine ⟨.some (by repeat' (first | exact Cover.nil | exact Take.here | apply Cover.cons | apply Take.there)), ?_⟩
   refine m_call (Hin := []) (Hr := ?hr6) (R := ?rr6) rfl wantedN rfl rfl rfl ?hin6 ?hc6 ?hk6
   case hin6 => repeat' (first | exact Cover.nil | exact Take.here | apply Cover.cons | apply Take.there)
   case hc6 => intro ρ' hρ hR; exact rsame_ok (ec := ec) (rc := rc) (ed := ed) (rd := rd) (hx.mono hρ) (hy.mono hρ)
   rintro _ _ ⟨rfl, rfl⟩
   refine ⟨.some (by repeat' (first | exact Cover.nil | exact Take.here | apply Cover.cons | apply Take.there)), ?_⟩
   refine m_float0 rfl (fun _ _ => p_eqlbT (by rfl) rfl rfl rfl) rfl ?_
   refine m_float0 rfl (fun _ _ => p_move rfl) rfl ?_
   first | refine m_yes rfl rfl rfl (p_loadO (by rfl) rfl (by first | (apply Has.own; (repeat' (first | exact Take.here | apply Take.there)); done) | exact Has.ro (by assumption)) (by rfl)) rfl ?_ | refine m_yes rfl rfl rfl (p_loadN (by rfl) rfl (by first | (apply Has.own; (repeat' (first | exact Take.here | apply Take.there)); done) | exact Has.ro (by assumption)) (by first | rfl | assumption)) rfl ?_
   first | refine m_yes rfl rfl rfl (p_loadO (by rfl) rfl (by first | (apply Has.own; (repeat' (first | exact Take.here | apply Take.there)); done) | exact Has.ro (by assumption)) (by rfl)) rfl ?_ | refine m_yes rfl rfl rfl (p_loadN (by rfl) rfl (by first | (apply Has.own; (repeat' (first | exact Take.here | apply Take.there)); done) | exact Has.ro (by assumption)) (by first | rfl | assumption)) rfl ?_
   refine m_call (Hin := []) (Hr := ?hr7) (R := ?rr7) rfl (wantedY rfl rfl) rfl rfl rfl ?hin7 ?hc7 ?hk7
   case hin7 => repeat' (first | exact Cover.nil | exact Take.here | apply Cover.cons | apply Take.there)
   case hc7 => intro ρ' hρ hR; exact cS hρ
   rintro _ _ ⟨rfl, rfl⟩
   refine ⟨.none (by kernel_rfl), ?_⟩
   first | refine m_float0 rfl (fun _ _ => p_pickt rfl rfl) rfl ?_ | refine m_float0 rfl (fun _ _ => p_pickf rfl rfl) rfl ?_
   refine m_float0 rfl (fun _ _ => p_move rfl) rfl ?_
   refine m_call (Hin := []) (Hr := ?hr8) (R := ?rr8) rfl (wantedY rfl rfl) rfl rfl rfl ?hin8 ?hc8 ?hk8
   case hin8 => repeat' (first | exact Cover.nil | exact Take.here | apply Cover.cons | apply Take.there)
   case hc8 => intro ρ' hρ hR; exact lives_ok (hk.mono hρ)
   rintro _ _ ⟨rfl, rfl⟩
   refine ⟨.none (by kernel_rfl), ?_⟩
   first | refine m_float0 rfl (fun _ _ => p_pickt rfl rfl) rfl ?_ | refine m_float0 rfl (fun _ _ => p_pickf rfl rfl) rfl ?_
   refine m_float0 rfl (fun _ _ => p_assign rfl) rfl ?_
   refine m_nil ?_
   refine g_qt <| g_ret ?_
   exact g_postA (rs := [.tmp 4]) rfl (.tmp rfl .nil) rfl
end Go.Proofs.YtcnfcoojmbjdlaaGreatDoor
/- Chapter 26, plain: what accepted images promise. Conditions: none. -/
namespace Go.Z.Asm
set_option maxRecDepth 8000
set_option linter.unusedVariables false
set_option linter.unusedSimpArgs false
set_option linter.unusedSectionVars false
open Go Go.Z Go.Lib

theorem operands_in {x n : Int} (h : operandsP x = n) (h0 : 0 < n) : 1 ≤ x ∧ x ≤ 16 := by
 unfold operandsP at h
 split at h
 ·omega
 ·split at h
  ·omega
  ·omega
theorem form_known {len at' : Int} {i : Ins} (h : formP len at' i = true) : knownP i.1 := by
 unfold formP at h
 rw [Bool.and_eq_true, decide_eq_true_eq] at h
 exact h.1
theorem mem_runP {a x : Int} {n : Nat} (h : x ∈ runP a n) : a ≤ x ∧ x < a + n := by
 unfold runP at h
 rw [List.mem_map] at h
 obtain ⟨k, hk, rfl⟩ := h
 rw [List.mem_range] at hk
 omega
theorem sound_ins {rts : List Rt} {k : Nat} {len at' rg : Int} {i : Ins} (hrg : (rts.getD k emptyRt).2.2.2.1 = rg) (hb : rg ≤ 32768) (hf : formP len at' i = true) (hg : rangesP rts k i = true) :
  (bigI i.2.2.2.1 ∧ bigI i.2.2.2.2) ∧ ∀ x ∈ usesP rts i ++ setsP rts i, 0 ≤ x ∧ x < rg := by
 have hk := form_known hf
 obtain ⟨op, A, B, C, D⟩ := i
 obtain ⟨yy, hy⟩ : ∃ yy, calledP rts A = yy := ⟨_, rfl⟩
 obtain ⟨r, hr⟩ : ∃ r, rts.getD k emptyRt = r := ⟨_, rfl⟩
 have hu : usesP rts (op, A, B, C, D) = if op = 2 ∨ op = 4 ∨ op = 5 then [B] else if op = 6 then (if B = C then [B] else [min B C, max B C]) else if op = 8 then [A] else if op = 9 then runP C yy.2.1.length else [] := by unfold usesP; rw [hy]
 have hs : setsP rts (op, A, B, C, D) = if op = 1 ∨ op = 2 ∨ op = 3 ∨ op = 5 ∨ op = 6 then [A] else if op = 9 then runP D yy.2.2.1.length else [] := by unfold setsP; rw [hy]
 rw [hu, hs]
 unfold rangesP at hg
 dsimp only at hg hk ⊢
 rw [hy, hr] at hg
 rw [hr] at hrg
 unfold formP at hf
 rw [Bool.and_eq_true] at hf
 have hf2 := hf.2
 dsimp only at hf2
 clear hf hu hs hr hy
 unfold bigI
 rcases op_cases hk with rfl | rfl | rfl | rfl | rfl | rfl | rfl | rfl | rfl | rfl <;> simp [opRow, knownP, opT, fieldsV, formT, rangeT, withinP, hrg] at hf2 hg
 ·refine ⟨by omega, fun x hx => ?_⟩
  simp at hx; omega
 ·refine ⟨by omega, fun x hx => ?_⟩
  simp at hx; omega
 ·refine ⟨by omega, fun x hx => ?_⟩
  simp at hx; omega
 ·refine ⟨by omega, fun x hx => ?_⟩
  simp at hx; omega
 ·have := operands_in hf2.1 (by decide)
  refine ⟨by omega, fun x hx => ?_⟩
  simp at hx; omega
 ·have := operands_in hf2 (by decide)
  refine ⟨by omega, fun x hx => ?_⟩
  rcases List.mem_append.1 hx with hx | hx
  ·by_cases h : B = C
   ·simp [h] at hx; omega
   ·simp [h] at hx; omega
  ·simp at hx; omega
 ·refine ⟨by omega, fun x hx => ?_⟩
  simp at hx
 ·refine ⟨by omega, fun x hx => ?_⟩
  simp at hx; omega
 ·refine ⟨by omega, fun x hx => ?_⟩
  rcases List.mem_append.1 hx with hx | hx
  ·have := mem_runP (a := C) (n := yy.2.1.length) (by simpa using hx); omega
  ·have := mem_runP (a := D) (n := yy.2.2.1.length) (by simpa using hx); omega
 ·refine ⟨by omega, fun x hx => ?_⟩
  simp at hx

theorem longL_straight (before : List Int) : ∀ (l : List Ins) (j : Nat), l.length ≤ 32768 → (∀ i ∈ l, i.1 ≠ 7 ∧ i.1 ≠ 9) → ∀ n, (longL before j l).getD n 0 = ((l.length - n : Nat) : Int)
 | [], j, _, _, n => by cases n <;> simp [longL]
 | i :: l, j, hl, h, n => by
  rw [List.length_cons] at hl
  have ih := longL_straight before l (j + 1) (by omega) (fun x hx => h x (List.mem_cons_of_mem _ hx))
  rw [longL_cons, List.length_cons]
  cases n with
  | succ n => rw [List.getD_cons_succ, ih n]; omega
  | zero =>
   rw [List.getD_cons_zero]
   have hhd : (longL before (j + 1) l).headD 0 = (l.length : Int) := by
    have h0 := ih 0
    have hd0 : (longL before (j + 1) l).getD 0 0 = (longL before (j + 1) l).headD 0 := by cases longL before (j + 1) l <;> rfl
    rw [← hd0, h0]; omega
   have hi := h i List.mem_cons_self
   have hm := ih (i.2.2.1 - j - 1).toNat
   unfold nextL
   rw [if_neg hi.1, if_neg hi.2, hhd, hm]
   simp only [farN]
   split <;> omega
def jcB (i : Ins) : Bool := decide (i.1 = 7) || decide (i.1 = 9)
theorem worst_last {rts : List Rt} {n : Nat} (hn : rts.length = n + 1) (hl : rts[n].2.2.2.2.2.length ≤ 32768) (h : ∀ i ∈ rts[n].2.2.2.2.2, i.1 ≠ 7 ∧ i.1 ≠ 9) : (worstL rts).getLastD 0 = rts[n].2.2.2.2.2.length := by
 have hst := worstL_step rts (k := n) (by omega)
 rw [List.take_of_length_le (by omega)] at hst
 have h0 := longL_straight (worstL (rts.take n)) rts[n].2.2.2.2.2 0 hl h 0
 have hd0 : ∀ L : List Int, L.getD 0 0 = L.headD 0 := fun L => by cases L <;> rfl
 rw [hd0] at h0
 rw [hst, h0, List.getLastD_eq_getLast?, List.getLast?_concat]; simp
theorem worstL_last_nonneg (rts : List Rt) : 0 ≤ (worstL rts).getLastD 0 := by
 have hwi := worstL_in rts rts.length (Nat.le_refl _)
 rw [List.take_length] at hwi
 rw [List.getLastD_eq_getLast?]
 cases e : (worstL rts).getLast? with
 | none => exact Int.le_refl 0
 | some v => exact (hwi v (List.mem_of_getLast? e)).1
theorem sound_end {im : Im} (h : checkP im = 0) {n : Nat} (hn : im.2.length = n + 1) :
  ((worstP im).2 = 3 ∧ (worstP im).1 = 0) ∨ ((worstP im).2 = 0 ∧ 0 ≤ (worstP im).1 ∧ (im.2[n].2.2.2.2.2.any jcB = false → (worstP im).1 = im.2[n].2.2.2.2.2.length)) := by
 obtain ⟨g1, g2, g3, g4⟩ := checkP_zero h
 have hg := g4 n (by omega)
 have h0 := worstL_last_nonneg im.2
 unfold worstP
 rw [if_pos h]
 dsimp only
 split
 ·exact .inl ⟨rfl, rfl⟩
 ·refine .inr ⟨rfl, h0, fun hj => ?_⟩
  refine worst_last hn hg.cl fun i hi => ?_
  rw [List.any_eq_false] at hj
  have := hj i hi
  simp [jcB] at this
  exact this
end Go.Z.Asm
/- Chapter 26, plain: the text of an accepted image is read back; what was read has this text. Conditions: none. -/
namespace Go.Z.Asm
set_option maxRecDepth 8000
set_option linter.unusedVariables false
set_option linter.unusedSimpArgs false
set_option linter.unusedSectionVars false
open Go Go.Z Go.Lib Go.Z.Txt Go.Z.Val

def okI (n : Int) : Prop := -2147483648 ≤ n ∧ n ≤ 2147483647
def bodyP (w : List UInt8) (l : List Int) : List UInt8 := w ++ (l.map fun n => 32 :: itoa n).flatten
theorem lineP_body (w : List UInt8) (l : List Int) (rest : List UInt8) : lineP w l ++ rest = bodyP w l ++ 10 :: rest := by unfold lineP bodyP; simp
theorem bodyP_cons (w : List UInt8) (n : Int) (l : List Int) : bodyP w (n :: l) = w ++ 32 :: bodyP (itoa n) l := by unfold bodyP; simp
theorem itoa_free {c : UInt8} (hc : c = 32 ∨ c = 10) (n : Int) : c ∉ itoa n := fun h => by
 have := itoa_chars (n := n) c h
 rcases hc with rfl | rfl
 ·exact absurd this (by decide)
 ·exact absurd this (by decide)
theorem itoa_ne (n : Int) : itoa n ≠ [] := by
 by_cases h : n < 0
 ·rw [itoa_neg h]; simp
 ·rw [itoa_pos h]; exact (dec_digits n.toNat).1
theorem body_pieces : ∀ (l : List Int) (w : List UInt8), (32 : UInt8) ∉ w → pieces 32 (bodyP w l) = w :: l.map itoa
 | [], w, h => by
  unfold bodyP; simp only [List.map_nil, List.flatten_nil, List.append_nil]
  exact pieces_free h
 | n :: l, w, h => by
  rw [bodyP_cons, pieces_hit _ h, body_pieces l _ (itoa_free (.inl rfl) n)]; rfl
theorem body_free (l : List Int) : ∀ (w : List UInt8), (10 : UInt8) ∉ w → (10 : UInt8) ∉ bodyP w l := by
 induction l with
 | nil => intro w h; unfold bodyP; simpa using h
 | cons n l ih =>
  intro w h
  rw [bodyP_cons, List.mem_append, List.mem_cons]
  rintro (h1 | h1 | h1)
  ·exact h h1
  ·exact absurd h1 (by decide)
  ·exact ih _ (itoa_free (.inr rfl) n) h1
theorem body_glue : ∀ (l : List Int) (w : List UInt8), glue 32 (w :: l.map itoa) = bodyP w l
 | [], w => by unfold bodyP; simp [glue]
 | n :: l, w => by rw [List.map_cons, glue_cons, body_glue l, bodyP_cons]
theorem read_line {p q : PS} {w : List UInt8} {l : List Int} (h1 : (32 : UInt8) ∉ w) (h2 : (10 : UInt8) ∉ w) (h : stepL p (w :: l.map itoa) = some q) (rest : List UInt8) (n : Nat) : readL p (pieces 10 (lineP w l ++ rest)) n = readL q (pieces 10 rest) (n + 1) := by
 rw [lineP_body, pieces_hit rest (body_free l w h2)]
 obtain ⟨m, r, hr⟩ : ∃ m r, pieces 10 rest = m :: r := by
  cases e : pieces 10 rest with
  | nil => exact absurd e (pieces_ne 10 rest)
  | cons m r => exact ⟨m, r, rfl⟩
 rw [hr, readL_cons, body_pieces l w h1, h]
theorem numA_itoa {n : Int} (h : okI n) : numA (itoa n) = some n := by
 obtain ⟨h1, h2⟩ := h
 unfold numA
 rw [atoi_it (by omega)]
 exact if_pos ⟨rfl, h1, h2⟩
theorem numA_some {w : List UInt8} {n : Int} (h : numA w = some n) : itoa n = w ∧ okI n := by
 unfold numA at h
 split at h
 ·split at h
  ·rename_i h2; cases h; exact ⟨h2.1, h2.2⟩
  ·cases h
 ·cases h
theorem nums_itoa {l : List Int} (h : ∀ n ∈ l, okI n) : numsO (l.map itoa) = some l := by
 unfold numsO numsV
 rw [if_neg]
 ·congr 1
  rw [List.map_map]
  conv => rhs; rw [← List.map_id l]
  exact List.map_congr_left fun n hn => by show (numA (itoa n)).getD 0 = id n; rw [numA_itoa (h n hn)]; rfl
 ·rw [List.any_eq_true]
  rintro ⟨w, hw, h2⟩
  obtain ⟨n, hn, rfl⟩ := List.mem_map.1 hw
  rw [numA_itoa (h n hn)] at h2; simp at h2
theorem nums_some {W : List (List UInt8)} {l : List Int} (h : numsO W = some l) : W = l.map itoa ∧ ∀ n ∈ l, okI n := by
 unfold numsO at h
 split at h
 ·cases h
 ·rename_i h0
  injection h with h
  subst h
  have hall : ∀ w ∈ W, ∃ n, numA w = some n := fun w hw => by
   cases e : numA w with
   | some n => exact ⟨n, rfl⟩
   | none => exact absurd (List.any_eq_true.2 ⟨w, hw, by rw [e]; rfl⟩) h0
  constructor
  ·unfold numsV
   rw [List.map_map]
   conv => lhs; rw [← List.map_id W]
   refine List.map_congr_left fun w hw => ?_
   obtain ⟨n, hn⟩ := hall w hw
   show w = itoa ((numA w).getD 0)
   rw [hn]; exact (numA_some hn).1.symm
  ·intro n hn
   obtain ⟨w, hw, rfl⟩ := List.mem_map.1 hn
   obtain ⟨m, hm⟩ := hall w hw
   show okI ((numA w).getD 0)
   rw [hm]; exact (numA_some hm).2
theorem words_nonempty {w : List UInt8} (h : w ≠ []) (l : List Int) : [] ∉ w :: l.map itoa := by
 rw [List.mem_cons]
 rintro (h1 | h1)
 ·exact h h1.symm
 ·obtain ⟨n, _, hn⟩ := List.mem_map.1 h1
  exact itoa_ne n hn
/-- a list of numbers behind a word -/
theorem step_list {p : PS} {w : Nat} (hw : p.2.2.2 = w) (h1 : w ≠ 1) (h6 : w < 6) {l : List Int} (hl : ∀ n ∈ l, okI n) (h4 : w = 4 → l.length = 1) : stepL p (headW w :: l.map itoa) = some (putW p l) := by
 have hne : headW w ≠ [] := by
  match w, h6 with
  | 0, _ => decide
  | 1, _ => decide
  | 2, _ => decide
  | 3, _ => decide
  | 4, _ => decide
  | 5, _ => decide
  | k + 6, h => omega
 unfold stepL
 rw [if_neg (words_nonempty hne l), hw, if_neg (c := w = 6) (by omega), if_neg (fun h => h rfl), if_neg (c := w = 1) h1, List.tail_cons, nums_itoa hl]
 exact if_neg (fun h => h.2 (h4 h.1))
theorem ins_back {len at' : Int} {i : Ins} (h : formP len at' i = true) : opF (opRow i.1).1 = some i.1.toNat ∧ (usedP i).length = (placesOf i.1.toNat).length ∧ mkIns i.1.toNat (usedP i) = i ∧ (opRow i.1).1 ≠ [] ∧ (opRow i.1).1 ≠ endW ∧ (32 : UInt8) ∉ (opRow i.1).1 ∧ (10 : UInt8) ∉ (opRow i.1).1 := by
 have hk := form_known h
 obtain ⟨op, A, B, C, D⟩ := i
 unfold formP at h
 rw [Bool.and_eq_true] at h
 have h2 := h.2
 dsimp only at hk h2 ⊢
 clear h
 rcases op_cases hk with rfl | rfl | rfl | rfl | rfl | rfl | rfl | rfl | rfl | rfl <;>
 ·simp [opRow, knownP, opT, fieldsV, formT] at h2
  refine ⟨by decide, by rfl, ?_, by decide, by decide, by decide, by decide⟩
  simp [mkIns, placesOf, fieldsR, fieldsRT, knownP, fillC, usedP, opRow, opT, fieldsV]
  try omega
theorem ins_okI {rts : List Rt} {k : Nat} {len at' rg : Int} {ms : Nat} {i : Ins} (hrg : (rts.getD k emptyRt).2.2.2.1 = rg) (hb : rg ≤ 32768) (hms : (rts.getD k emptyRt).2.2.2.2.1.length = ms) (hm : ms ≤ 16384) (hk : k < 100) (hl : len ≤ 32768) (ha : 0 ≤ at') (hf : formP len at' i = true) (hg : rangesP rts k i = true) :
  ∀ x ∈ usedP i, okI x := by
 have hkn := form_known hf
 obtain ⟨op, A, B, C, D⟩ := i
 obtain ⟨yy, hy⟩ : ∃ yy, calledP rts A = yy := ⟨_, rfl⟩
 obtain ⟨r, hr⟩ : ∃ r, rts.getD k emptyRt = r := ⟨_, rfl⟩
 unfold rangesP at hg
 dsimp only at hg hkn ⊢
 rw [hy, hr] at hg
 rw [hr] at hrg hms
 unfold formP at hf
 rw [Bool.and_eq_true] at hf
 have hf2 := hf.2
 dsimp only at hf2
 clear hf hr hy
 intro x hx
 unfold okI
 rcases op_cases hkn with rfl | rfl | rfl | rfl | rfl | rfl | rfl | rfl | rfl | rfl <;> simp [opRow, knownP, opT, fieldsV, formT, rangeT, withinP, hrg, hms] at hf2 hg <;> simp [usedP, opRow, knownP, opT, fieldsV] at hx
 ·omega
 ·omega
 ·omega
 ·omega
 ·have := operands_in hf2.1 (by decide)
  omega
 ·have := operands_in hf2 (by decide)
  omega
 ·omega
 ·omega
 ·omega
 ·omega
structure TxtOk (r : Rt) : Prop where
 ne : r.1 ≠ []
 sp : (32 : UInt8) ∉ r.1
 nl : (10 : UInt8) ∉ r.1
 il : ∀ n ∈ r.2.1, okI n
 ol : ∀ n ∈ r.2.2.1, okI n
 rl : okI r.2.2.2.1
 zl : ∀ n ∈ r.2.2.2.2.1, okI n
 cl : ∀ i ∈ r.2.2.2.2.2, (∃ len at', formP len at' i = true) ∧ ∀ x ∈ usedP i, okI x
theorem char_free {s : List UInt8} (h : s.all charP = true) {c : UInt8} (hc : c = 32 ∨ c = 10) : c ∉ s := fun hm => by
 have := List.all_eq_true.1 h c hm
 rcases hc with rfl | rfl <;> exact absurd this (by decide)
theorem txt_ok {im : Im} (h : checkP im = 0) : (∀ n ∈ im.1, okI n) ∧ ∀ r ∈ im.2, TxtOk r := by
 obtain ⟨g1, g2, g3, g4⟩ := checkP_zero h
 constructor
 ·intro n hn
  have h2 : im.1.any (fun n => decide (n < 1) || decide (16 < n)) = false := by
   cases e : im.1.any (fun n => decide (n < 1) || decide (16 < n)) with
   | false => rfl
   | true =>
    exfalso
    unfold checkP at h
    rw [if_neg (by omega), if_pos e] at h; omega
  rw [List.any_eq_false] at h2
  have := h2 n hn
  simp at this
  unfold okI; omega
 ·intro r hr
  obtain ⟨k, hk, rfl⟩ := List.mem_iff_getElem.1 hr
  have hg := g4 k hk
  have hget : im.2.getD k emptyRt = im.2[k] := by rw [List.getD_eq_getElem?_getD, List.getElem?_eq_getElem hk]; rfl
  have hco := codeE_zero im.2 k _ _ 0 hg.co
  have ht := hg.tl
  have hty := hg.ty
  have hzi := hg.zi
  have hrl := hg.rl
  have hio := hg.io
  have hcl := hg.cl
  have hzl := hg.zl
  generalize im.2[k] = x at ht hty hzi hrl hio hcl hzl hco hget ⊢
  unfold titleP at ht
  rw [Bool.and_eq_true, Bool.and_eq_true, decide_eq_true_eq] at ht
  rw [List.any_eq_false] at hty hzi
  have hv : ∀ t ∈ x.2.1 ++ x.2.2.1, okI t := fun t ht' => by
   have := hty t ht'
   rw [Bool.not_eq_true', Bool.not_eq_false, decide_eq_true_eq] at this
   unfold validP at this; unfold okI; omega
  refine ⟨ht.1, char_free ht.2.2 (.inl rfl), char_free ht.2.2 (.inr rfl), fun n hn => hv n (List.mem_append_left _ hn), fun n hn => hv n (List.mem_append_right _ hn), by unfold okI; omega, fun n hn => ?_, fun i hi => ?_⟩
  ·have := hzi n hn
   simp [outB] at this
   unfold okI; omega
  ·obtain ⟨j, hj, rfl⟩ := List.mem_iff_getElem.1 hi
   obtain ⟨f1, f2⟩ := hco j hj
   exact ⟨⟨_, _, f1⟩, ins_okI (ms := x.2.2.2.2.1.length) (rg := x.2.2.2.1) (by rw [hget]) hrl (by rw [hget]) hzl (by omega) (by omega) (by omega) f1 f2⟩
theorem step_ins {p : PS} (hw : p.2.2.2 = 6) {i : Ins} (hf : ∃ len at', formP len at' i = true) (hi : ∀ x ∈ usedP i, okI x) : stepL p ((opRow i.1).1 :: (usedP i).map itoa) = some (addI p i) := by
 obtain ⟨len, at', hf⟩ := hf
 obtain ⟨b1, b2, b3, b4, b5, b6, b7⟩ := ins_back hf
 unfold stepL
 rw [if_neg (words_nonempty b4 _), if_pos hw, List.headD_cons, if_neg b5]
 unfold insV
 rw [List.headD_cons, b1, List.tail_cons, nums_itoa hi]
 dsimp only
 rw [if_pos b2, b3]; rfl
theorem read_code {p : PS} (rest : List UInt8) : ∀ (code : List Ins) (p : PS), p.2.2.2 = 6 → (∀ i ∈ code, (∃ len at', formP len at' i = true) ∧ ∀ x ∈ usedP i, okI x) → ∀ n, ∃ n', readL p (pieces 10 ((code.map insT).flatten ++ rest)) n = readL (p.1, p.2.1, (p.2.2.1.1, p.2.2.1.2.1, p.2.2.1.2.2.1, p.2.2.1.2.2.2.1, p.2.2.1.2.2.2.2.1, p.2.2.1.2.2.2.2.2 ++ code), 6) (pieces 10 rest) n'
 | [], p, hw, _, n => ⟨n, by
  obtain ⟨a, b, ⟨c1, c2, c3, c4, c5, c6⟩, d⟩ := p
  dsimp only at hw
  subst hw
  simp⟩
 | i :: code, p, hw, h, n => by
  obtain ⟨h1, h2⟩ := h i List.mem_cons_self
  obtain ⟨len, at', hf⟩ := id h1
  obtain ⟨b1, b2, b3, b4, b5, b6, b7⟩ := ins_back hf
  obtain ⟨n', hn⟩ := read_code (p := p) rest code (addI p i) rfl (fun j hj => h j (List.mem_cons_of_mem _ hj)) (n + 1)
  refine ⟨n', ?_⟩
  rw [List.map_cons, List.flatten_cons, List.append_assoc]
  unfold insT at hn ⊢
  rw [read_line b6 b7 (step_ins hw h1 h2), hn]
  simp [addI]
theorem read_rt (es : List Int) (done : List Rt) (cur : Rt) {r : Rt} (h : TxtOk r) (rest : List UInt8) (n : Nat) : ∃ n', readL (es, done, cur, 1) (pieces 10 (rtT r ++ rest)) n = readL (es, done ++ [r], r, 1) (pieces 10 rest) n' := by
 obtain ⟨nm, li, lo, rg, lz, code⟩ := r
 obtain ⟨t1, t2, t3, t4, t5, t6, t7, t8⟩ := h
 dsimp only at t1 t2 t3 t4 t5 t6 t7 t8
 obtain ⟨n', hn⟩ := read_code (p := (es, done, cur, 1)) (lineP endW [] ++ rest) code (es, done, (nm, li, lo, rg, lz, []), 6) rfl t8 (n + 1 + 1 + 1 + 1 + 1)
 refine ⟨n' + 1, ?_⟩
 unfold rtT
 dsimp only
 simp only [List.append_assoc]
 have hname : readL (es, done, cur, 1) (pieces 10 (lineP ([114, 111, 117, 116, 105, 110, 101, 32] ++ nm) [] ++ (lineP [105, 110] li ++ (lineP [111, 117, 116] lo ++ (lineP [114, 101, 103, 115] [rg] ++ (lineP [105, 110, 105, 116] lz ++ ((code.map insT).flatten ++ (lineP [101, 110, 100] [] ++ rest)))))))) n = readL (newP (es, done, cur, 1) nm) (pieces 10 (lineP [105, 110] li ++ (lineP [111, 117, 116] lo ++ (lineP [114, 101, 103, 115] [rg] ++ (lineP [105, 110, 105, 116] lz ++ ((code.map insT).flatten ++ (lineP [101, 110, 100] [] ++ rest))))))) (n + 1) := by
  generalize lineP [105, 110] li ++ (lineP [111, 117, 116] lo ++ (lineP [114, 101, 103, 115] [rg] ++ (lineP [105, 110, 105, 116] lz ++ ((code.map insT).flatten ++ (lineP [101, 110, 100] [] ++ rest))))) = rest'
  have hb : bodyP ([114, 111, 117, 116, 105, 110, 101, 32] ++ nm) [] = routW ++ 32 :: nm := by simp [bodyP, routW]
  rw [lineP_body, hb]
  have hfree : (10 : UInt8) ∉ routW ++ 32 :: nm := by
   rw [List.mem_append, List.mem_cons]
   rintro (h | h | h)
   ·exact absurd h (by decide)
   ·exact absurd h (by decide)
   ·exact t3 h
  rw [pieces_hit rest' hfree]
  obtain ⟨m, r, hr⟩ : ∃ m r, pieces 10 rest' = m :: r := by
   cases e : pieces 10 rest' with
   | nil => exact absurd e (pieces_ne 10 rest')
   | cons m r => exact ⟨m, r, rfl⟩
  rw [hr, readL_cons, pieces_hit nm (show (32 : UInt8) ∉ routW by decide), pieces_free t2]
  have hst : stepL (es, done, cur, 1) [routW, nm] = some (newP (es, done, cur, 1) nm) := by
   unfold stepL
   rw [if_neg (by rw [List.mem_cons, List.mem_singleton]; rintro (h | h); exact absurd h (by decide); exact t1 h.symm)]
   rfl
  rw [hst]
 rw [hname]
 have s2 : stepL (newP (es, done, cur, 1) nm) ([105, 110] :: li.map itoa) = some (putW (newP (es, done, cur, 1) nm) li) := step_list (p := newP (es, done, cur, 1) nm) (w := 2) rfl (by decide) (by decide) t4 (fun h => absurd h (by decide))
 rw [read_line (by decide) (by decide) s2]
 have s3 : stepL (putW (newP (es, done, cur, 1) nm) li) ([111, 117, 116] :: lo.map itoa) = some (putW (putW (newP (es, done, cur, 1) nm) li) lo) := step_list (p := putW (newP (es, done, cur, 1) nm) li) (w := 3) rfl (by decide) (by decide) t5 (fun h => absurd h (by decide))
 rw [read_line (by decide) (by decide) s3]
 have s4 : stepL (putW (putW (newP (es, done, cur, 1) nm) li) lo) ([114, 101, 103, 115] :: [rg].map itoa) = some (putW (putW (putW (newP (es, done, cur, 1) nm) li) lo) [rg]) := step_list (p := putW (putW (newP (es, done, cur, 1) nm) li) lo) (w := 4) rfl (by decide) (by decide) (l := [rg]) (fun n hn => by rw [List.mem_singleton.1 hn]; exact t6) (fun _ => rfl)
 rw [read_line (by decide) (by decide) s4]
 have s5 : stepL (putW (putW (putW (newP (es, done, cur, 1) nm) li) lo) [rg]) ([105, 110, 105, 116] :: lz.map itoa) = some (putW (putW (putW (putW (newP (es, done, cur, 1) nm) li) lo) [rg]) lz) := step_list (p := putW (putW (putW (newP (es, done, cur, 1) nm) li) lo) [rg]) (w := 5) rfl (by decide) (by decide) t7 (fun h => absurd h (by decide))
 rw [read_line (by decide) (by decide) s5]
 have e5 : putW (putW (putW (putW (newP (es, done, cur, 1) nm) li) lo) [rg]) lz = (es, done, (nm, li, lo, rg, lz, []), 6) := rfl
 rw [e5]
 refine hn.trans ?_
 have s6 : stepL (es, done, (nm, li, lo, rg, lz, [] ++ code), 6) (endW :: ([] : List Int).map itoa) = some (es, done ++ [(nm, li, lo, rg, lz, code)], (nm, li, lo, rg, lz, code), 1) := rfl
 exact read_line (by decide) (by decide) s6 rest n'
theorem text_read {im : Im} (h : checkP im = 0) : parseR (textP im) = .ok im := by
 obtain ⟨h1, h2⟩ := txt_ok h
 have hrts : ∀ (rts done : List Rt) (cur : Rt) (n : Nat), (∀ r ∈ rts, TxtOk r) → readL (im.1, done, cur, 1) (pieces 10 ((rts.map rtT).flatten)) n = .ok (im.1, done ++ rts) := by
  intro rts
  induction rts with
  | nil => intro done cur n _; simp [pieces, readL]
  | cons r rts ih =>
   intro done cur n hr
   obtain ⟨n', hn⟩ := read_rt im.1 done cur (hr r List.mem_cons_self) ((rts.map rtT).flatten) n
   rw [List.map_cons, List.flatten_cons, hn, ih _ _ _ (fun x hx => hr x (List.mem_cons_of_mem _ hx))]
   simp
 unfold parseR textP
 have s0 : stepL startP ([101, 110, 117, 109, 115] :: im.1.map itoa) = some (putW startP im.1) := step_list (p := startP) (w := 0) rfl (by decide) (by decide) h1 (fun h => absurd h (by decide))
 rw [read_line (by decide) (by decide) s0]
 exact hrts im.2 [] emptyRt 1 h2
end Go.Z.Asm
/- Chapter 26: the document's check: its small functions. Conditions: none. -/
namespace Go.Z.Asm
set_option maxRecDepth 8000
set_option linter.unusedVariables false
set_option linter.unusedSimpArgs false
set_option linter.unusedSectionVars false
open Go Go.Z Go.Lib
theorem strB_at (s : List UInt8) {k : Nat} (hk : k < s.length) : (strB s).data.toList[(k : Int).toNat]? = some s[k] := by
 show s[(k : Int).toNat]? = _
 rw [Int.toNat_natCast, List.getElem?_eq_getElem hk]
theorem take_char {s : List UInt8} {k : Nat} {f : UInt8 → Bool} (hk : k < s.length) (h : (s.take k).all f = true) : (f s[k] = true → (s.take (k + 1)).all f = true) ∧ (f s[k] = false → s.all f = false) := by
 constructor
 ·intro e
  rw [List.take_add_one, List.getElem?_eq_getElem hk, Option.toList_some, List.all_append, h]; simpa using e
 ·intro e
  rw [List.all_eq_false]
  exact ⟨s[k], List.getElem_mem hk, by rw [e]; decide⟩
theorem take_int {s : List Int} {k : Nat} {f : Int → Bool} (hk : k < s.length) (h : (s.take k).all f = true) : (f s[k] = true → (s.take (k + 1)).all f = true) ∧ (f s[k] = false → s.all f = false) := by
 constructor
 ·intro e
  rw [List.take_add_one, List.getElem?_eq_getElem hk, Option.toList_some, List.all_append, h]; simpa using e
 ·intro e
  rw [List.all_eq_false]
  exact ⟨s[k], List.getElem_mem hk, by rw [e]; decide⟩
end Go.Z.Asm
namespace Go.Proofs.YtcnfcoojmbjdlaaGreatDoor
set_option maxRecDepth 8000
set_option linter.unusedVariables false
set_option linter.unusedSimpArgs false
set_option linter.unusedSectionVars false
open Go Go.Z Go.Z.Asm

theorem rname_ok {ρ : Nat → Obj → Prop} (s : List UInt8) (hs : s.length ≤ 9223372036854775807) : Con Tryz.prog ρ 64 #[.string (strB s)] [] (fun v H => v = .bool (titleP s) ∧ H = []) := by
 have hsz : (strB s).size = s.length := rfl
 have hnil : strB s = ⟨#[]⟩ ↔ s = [] := strB_inj (b := [])
 have hT : ¬ s = [] → s.length ≤ 40 → titleP s = s.all charP := fun h1 h2 => by unfold titleP; rw [decide_eq_true h1, decide_eq_true h2]; simp
 have hF1 : s = [] → titleP s = false := fun h => by unfold titleP; rw [decide_eq_false (fun h' => h' h)]; rfl
 have hF2 : ¬ s.length ≤ 40 → titleP s = false := fun h => by unfold titleP; rw [decide_eq_false h]; simp
 refine con_intro Tryz.func64 Tryz.call64 rfl Tryz.ntmps64 rfl (L := [(0, _)]) rfl fun w hh => ?_
 refine g_seq <| g_region ?_
 refine g_as ?_
 refine g_nil <| g_qt <| g_seq ?_
 refine g_join (fun _ : Unit => [(0, .string (strB s))]) (fun _ => []) (fun _ => ¬ s = [] ∧ s.length ≤ 40) ?_ ?_
 ·refine g_seq <| g_region ?_
  refine g_mv ?_
  refine g_pure (p_eqls (i := strB s) (j := ⟨#[]⟩) (by rfl) rfl rfl) rfl ?_
  refine g_mv ?_
  refine g_splitd rfl rfl (fun h1 => ?_) (fun h1 => ?_)
  ·refine g_noA ?_
   refine g_noA ?_
   refine g_noA ?_
   first | refine g_pkt ?_ | refine g_pkf ?_
   refine g_nil <| g_qt ?_
   refine g_ift rfl ?_
   refine g_seq <| g_region ?_
   refine g_as ?_
   refine g_nil <| g_qt <| g_ret <| g_qn_ret <| g_qt_ret ?_
   first | exact g_postA (rs := [.tmp 2]) rfl (.tmp rfl .nil) ⟨by rw [hF1 (hnil.1 (by assumption))]; rfl, rfl⟩ | exact g_postA (rs := [.tmp 2]) rfl (.tmp rfl .nil) ⟨by rw [hF2 (by omega)]; rfl, rfl⟩
  ·refine g_yesA ?_
   refine g_mv ?_
   refine g_yesA ?_
   refine g_pure (p_lens (by rfl) rfl) rfl ?_
   refine g_yesA ?_
   refine g_pure (p_gtr rfl rfl) rfl ?_
   first | refine g_pkt ?_ | refine g_pkf ?_
   refine g_nil <| g_qt ?_
   refine g_ifdL rfl (fun h3 => ?_) (fun h3 => ?_)
   ·refine g_seq <| g_region ?_
    refine g_as ?_
    refine g_nil <| g_qt <| g_ret <| g_qn_ret <| g_qt_ret ?_
    first | exact g_postA (rs := [.tmp 2]) rfl (.tmp rfl .nil) ⟨by rw [hF1 (hnil.1 (by assumption))]; rfl, rfl⟩ | exact g_postA (rs := [.tmp 2]) rfl (.tmp rfl .nil) ⟨by rw [hF2 (by omega)]; rfl, rfl⟩
   ·refine g_skip <| g_qn ?_
    exact g_joinedA () ⟨fun e => by have := hnil.2 e; contradiction, by omega⟩
 rintro _ ⟨h1, h2⟩
 refine g_qt ?_
 rw [hT h1 h2]
 refine g_seq <| g_seq <| g_region ?_
 refine g_as ?_
 refine g_nil <| g_qt <| g_block ?_
 refine g_loop (fun k : Nat => [(0, .string (strB s)), (3, .int .i64 k)]) (fun _ => []) (fun k => k ≤ s.length ∧ (s.take k).all charP = true) (fun k => s.length - k) 0 ⟨Nat.zero_le _, rfl⟩ (by (repeat (first | exact trivial | refine ⟨by rfl, ?_⟩)); done) (by repeat' (first | exact Cover.nil | exact Take.here | apply Cover.cons | apply Take.there)) ?_
 rintro k ⟨hk1, hk2⟩
 refine g_seq <| g_seq <| g_region ?_
 refine g_mv ?_
 refine g_mv ?_
 refine g_pure (p_lens (by rfl) rfl) rfl ?_
 refine g_pure (p_lss rfl rfl) rfl ?_
 refine g_nil <| g_qt ?_
 refine g_ifd rfl (fun q => ?_) (fun q => ?_)
 ·have hkl : k < s.length := by omega
  obtain ⟨t1, t2⟩ := take_char hkl hk2
  have hx := strB_at s hkl
  generalize s[k] = c at t1 t2 hx
  have cT : (decide (c.toNat = 95) || (decide (48 ≤ c.toNat ∧ c.toNat ≤ 57) || (decide (65 ≤ c.toNat ∧ c.toNat ≤ 90) || decide (97 ≤ c.toNat ∧ c.toNat ≤ 122)))) = charP c := rfl
  have c1 : c.toNat = 95 ∨ (48 ≤ c.toNat ∧ c.toNat ≤ 57) ∨ (65 ≤ c.toNat ∧ c.toNat ≤ 90) ∨ (97 ≤ c.toNat ∧ c.toNat ≤ 122) → charP c = true := fun h => by rw [← cT]; simp; exact h
  have c2 : ¬ (c.toNat = 95 ∨ (48 ≤ c.toNat ∧ c.toNat ≤ 57) ∨ (65 ≤ c.toNat ∧ c.toNat ≤ 90) ∨ (97 ≤ c.toNat ∧ c.toNat ≤ 122)) → charP c = false := fun h => by rw [← cT, ← Bool.not_eq_true]; simpa using h
  refine g_skip <| g_qt <| g_seq <| g_block <| g_seq <| g_region ?_
  refine g_mv ?_
  refine g_mv ?_
  refine g_pure (p_indexs (by rfl) rfl rfl (by omega) hx) rfl ?_
  refine g_as ?_
  refine g_nil <| g_qt <| g_seq <| g_region ?_
  refine g_mv ?_
  refine g_pure (p_geq rfl rfl) rfl ?_
  refine g_mv ?_
  refine g_splitd rfl rfl (fun h1 => ?_) (fun h1 => ?_)
  ·refine g_yesA ?_
   refine g_mv ?_
   refine g_yesA ?_
   refine g_pure (p_leq rfl rfl) rfl ?_
   first | refine g_pkt ?_ | refine g_pkf ?_
   refine g_mv ?_
   refine g_splitd rfl rfl (fun h2 => ?_) (fun h2 => ?_)
   ·refine g_noA ?_
    refine g_noA ?_
    refine g_noA ?_
    refine g_nou rfl rfl rfl ?_
    refine g_nou rfl rfl rfl ?_
    refine g_noA ?_
    first | refine g_pkt ?_ | refine g_pkf ?_
    refine g_mv ?_
    refine g_noA ?_
    refine g_noA ?_
    refine g_noA ?_
    refine g_nou rfl rfl rfl ?_
    refine g_nou rfl rfl rfl ?_
    refine g_noA ?_
    first | refine g_pkt ?_ | refine g_pkf ?_
    refine g_mv ?_
    refine g_noA ?_
    refine g_noA ?_
    first | refine g_pkt ?_ | refine g_pkf ?_
    refine g_pure (p_not rfl) rfl ?_
    refine g_nil <| g_qt ?_
    refine g_iff rfl ?_
    refine g_skip <| g_qb <| g_qt <| g_region ?_
    refine g_mv ?_
    first | refine g_pure (p_addi rfl rfl (by omega)) rfl ?_ | refine g_pure (p_add rfl rfl) rfl ?_
    refine g_as ?_
    refine g_nil <| g_qn ?_
    exact g_nextA (k + 1) ⟨hkl, t1 (c1 (by omega))⟩ (by omega)
   ·refine g_yesA ?_
    refine g_mv ?_
    refine g_yesA ?_
    refine g_pure (p_geq rfl rfl) rfl ?_
    refine g_yesA ?_
    refine g_mv ?_
    refine g_splitd rfl rfl (fun h8 => ?_) (fun h8 => ?_)
    ·refine g_yesA ?_
     refine g_mv ?_
     refine g_yesA ?_
     refine g_pure (p_leq rfl rfl) rfl ?_
     refine g_yesA ?_
     first | refine g_pkt ?_ | refine g_pkf ?_
     first | refine g_pkt ?_ | refine g_pkf ?_
     refine g_mv ?_
     refine g_splitd rfl rfl (fun h9 => ?_) (fun h9 => ?_)
     ·refine g_noA ?_
      refine g_noA ?_
      refine g_noA ?_
      refine g_nou rfl rfl rfl ?_
      refine g_nou rfl rfl rfl ?_
      refine g_noA ?_
      first | refine g_pkt ?_ | refine g_pkf ?_
      refine g_mv ?_
      refine g_noA ?_
      refine g_noA ?_
      first | refine g_pkt ?_ | refine g_pkf ?_
      refine g_pure (p_not rfl) rfl ?_
      refine g_nil <| g_qt ?_
      refine g_iff rfl ?_
      refine g_skip <| g_qb <| g_qt <| g_region ?_
      refine g_mv ?_
      first | refine g_pure (p_addi rfl rfl (by omega)) rfl ?_ | refine g_pure (p_add rfl rfl) rfl ?_
      refine g_as ?_
      refine g_nil <| g_qn ?_
      exact g_nextA (k + 1) ⟨hkl, t1 (c1 (by omega))⟩ (by omega)
     ·refine g_yesA ?_
      refine g_mv ?_
      refine g_yesA ?_
      refine g_pure (p_geq rfl rfl) rfl ?_
      refine g_yesA ?_
      refine g_mv ?_
      refine g_splitd rfl rfl (fun h13 => ?_) (fun h13 => ?_)
      ·refine g_yesA ?_
       refine g_mv ?_
       refine g_yesA ?_
       refine g_pure (p_leq rfl rfl) rfl ?_
       refine g_yesA ?_
       first | refine g_pkt ?_ | refine g_pkf ?_
       first | refine g_pkt ?_ | refine g_pkf ?_
       refine g_mv ?_
       refine g_splitd rfl rfl (fun h14 => ?_) (fun h14 => ?_)
       ·refine g_noA ?_
        refine g_noA ?_
        first | refine g_pkt ?_ | refine g_pkf ?_
        refine g_pure (p_not rfl) rfl ?_
        refine g_nil <| g_qt ?_
        refine g_iff rfl ?_
        refine g_skip <| g_qb <| g_qt <| g_region ?_
        refine g_mv ?_
        first | refine g_pure (p_addi rfl rfl (by omega)) rfl ?_ | refine g_pure (p_add rfl rfl) rfl ?_
        refine g_as ?_
        refine g_nil <| g_qn ?_
        exact g_nextA (k + 1) ⟨hkl, t1 (c1 (by omega))⟩ (by omega)
       ·refine g_yesA ?_
        refine g_mv ?_
        refine g_yesA ?_
        refine g_pure (p_eql rfl rfl) rfl ?_
        first | refine g_pkt ?_ | refine g_pkf ?_
        refine g_pure (p_not rfl) rfl ?_
        refine g_nil <| g_qt ?_
        refine g_ifndL rfl (fun h16 => ?_) (fun h16 => ?_)
        ·refine g_seq <| g_region ?_
         refine g_as ?_
         refine g_nil <| g_qt <| g_ret <| g_qb_ret <| g_qt_ret <| g_qn_ret <| g_qb_ret <| g_qt_ret ?_
         exact g_postA (rs := [.tmp 2]) rfl (.tmp rfl .nil) ⟨by rw [t2 (c2 (by omega))]; rfl, rfl⟩
        ·refine g_skip <| g_qb <| g_qt <| g_region ?_
         refine g_mv ?_
         first | refine g_pure (p_addi rfl rfl (by omega)) rfl ?_ | refine g_pure (p_add rfl rfl) rfl ?_
         refine g_as ?_
         refine g_nil <| g_qn ?_
         exact g_nextA (k + 1) ⟨hkl, t1 (c1 (by omega))⟩ (by omega)
      ·refine g_noA ?_
       refine g_noA ?_
       refine g_yesA ?_
       first | refine g_pkt ?_ | refine g_pkf ?_
       first | refine g_pkt ?_ | refine g_pkf ?_
       refine g_mv ?_
       refine g_yesA ?_
       refine g_mv ?_
       refine g_yesA ?_
       refine g_pure (p_eql rfl rfl) rfl ?_
       first | refine g_pkt ?_ | refine g_pkf ?_
       refine g_pure (p_not rfl) rfl ?_
       refine g_nil <| g_qt ?_
       refine g_ifndL rfl (fun h18 => ?_) (fun h18 => ?_)
       ·refine g_seq <| g_region ?_
        refine g_as ?_
        refine g_nil <| g_qt <| g_ret <| g_qb_ret <| g_qt_ret <| g_qn_ret <| g_qb_ret <| g_qt_ret ?_
        exact g_postA (rs := [.tmp 2]) rfl (.tmp rfl .nil) ⟨by rw [t2 (c2 (by omega))]; rfl, rfl⟩
       ·refine g_skip <| g_qb <| g_qt <| g_region ?_
        refine g_mv ?_
        first | refine g_pure (p_addi rfl rfl (by omega)) rfl ?_ | refine g_pure (p_add rfl rfl) rfl ?_
        refine g_as ?_
        refine g_nil <| g_qn ?_
        exact g_nextA (k + 1) ⟨hkl, t1 (c1 (by omega))⟩ (by omega)
    ·refine g_noA ?_
     refine g_noA ?_
     refine g_yesA ?_
     first | refine g_pkt ?_ | refine g_pkf ?_
     first | refine g_pkt ?_ | refine g_pkf ?_
     refine g_mv ?_
     refine g_yesA ?_
     refine g_mv ?_
     refine g_yesA ?_
     refine g_pure (p_geq rfl rfl) rfl ?_
     refine g_yesA ?_
     refine g_mv ?_
     refine g_splitd rfl rfl (fun h20 => ?_) (fun h20 => ?_)
     ·refine g_yesA ?_
      refine g_mv ?_
      refine g_yesA ?_
      refine g_pure (p_leq rfl rfl) rfl ?_
      refine g_yesA ?_
      first | refine g_pkt ?_ | refine g_pkf ?_
      first | refine g_pkt ?_ | refine g_pkf ?_
      refine g_mv ?_
      refine g_splitd rfl rfl (fun h21 => ?_) (fun h21 => ?_)
      ·refine g_noA ?_
       refine g_noA ?_
       first | refine g_pkt ?_ | refine g_pkf ?_
       refine g_pure (p_not rfl) rfl ?_
       refine g_nil <| g_qt ?_
       refine g_iff rfl ?_
       refine g_skip <| g_qb <| g_qt <| g_region ?_
       refine g_mv ?_
       first | refine g_pure (p_addi rfl rfl (by omega)) rfl ?_ | refine g_pure (p_add rfl rfl) rfl ?_
       refine g_as ?_
       refine g_nil <| g_qn ?_
       exact g_nextA (k + 1) ⟨hkl, t1 (c1 (by omega))⟩ (by omega)
      ·refine g_yesA ?_
       refine g_mv ?_
       refine g_yesA ?_
       refine g_pure (p_eql rfl rfl) rfl ?_
       first | refine g_pkt ?_ | refine g_pkf ?_
       refine g_pure (p_not rfl) rfl ?_
       refine g_nil <| g_qt ?_
       refine g_ifndL rfl (fun h23 => ?_) (fun h23 => ?_)
       ·refine g_seq <| g_region ?_
        refine g_as ?_
        refine g_nil <| g_qt <| g_ret <| g_qb_ret <| g_qt_ret <| g_qn_ret <| g_qb_ret <| g_qt_ret ?_
        exact g_postA (rs := [.tmp 2]) rfl (.tmp rfl .nil) ⟨by rw [t2 (c2 (by omega))]; rfl, rfl⟩
       ·refine g_skip <| g_qb <| g_qt <| g_region ?_
        refine g_mv ?_
        first | refine g_pure (p_addi rfl rfl (by omega)) rfl ?_ | refine g_pure (p_add rfl rfl) rfl ?_
        refine g_as ?_
        refine g_nil <| g_qn ?_
        exact g_nextA (k + 1) ⟨hkl, t1 (c1 (by omega))⟩ (by omega)
     ·refine g_noA ?_
      refine g_noA ?_
      refine g_yesA ?_
      first | refine g_pkt ?_ | refine g_pkf ?_
      first | refine g_pkt ?_ | refine g_pkf ?_
      refine g_mv ?_
      refine g_yesA ?_
      refine g_mv ?_
      refine g_yesA ?_
      refine g_pure (p_eql rfl rfl) rfl ?_
      first | refine g_pkt ?_ | refine g_pkf ?_
      refine g_pure (p_not rfl) rfl ?_
      refine g_nil <| g_qt ?_
      refine g_ifndL rfl (fun h25 => ?_) (fun h25 => ?_)
      ·refine g_seq <| g_region ?_
       refine g_as ?_
       refine g_nil <| g_qt <| g_ret <| g_qb_ret <| g_qt_ret <| g_qn_ret <| g_qb_ret <| g_qt_ret ?_
       exact g_postA (rs := [.tmp 2]) rfl (.tmp rfl .nil) ⟨by rw [t2 (c2 (by omega))]; rfl, rfl⟩
      ·refine g_skip <| g_qb <| g_qt <| g_region ?_
       refine g_mv ?_
       first | refine g_pure (p_addi rfl rfl (by omega)) rfl ?_ | refine g_pure (p_add rfl rfl) rfl ?_
       refine g_as ?_
       refine g_nil <| g_qn ?_
       exact g_nextA (k + 1) ⟨hkl, t1 (c1 (by omega))⟩ (by omega)
  ·refine g_noA ?_
   refine g_noA ?_
   first | refine g_pkt ?_ | refine g_pkf ?_
   refine g_mv ?_
   refine g_yesA ?_
   refine g_mv ?_
   refine g_yesA ?_
   refine g_pure (p_geq rfl rfl) rfl ?_
   refine g_yesA ?_
   refine g_mv ?_
   refine g_splitd rfl rfl (fun h27 => ?_) (fun h27 => ?_)
   ·refine g_yesA ?_
    refine g_mv ?_
    refine g_yesA ?_
    refine g_pure (p_leq rfl rfl) rfl ?_
    refine g_yesA ?_
    first | refine g_pkt ?_ | refine g_pkf ?_
    first | refine g_pkt ?_ | refine g_pkf ?_
    refine g_mv ?_
    refine g_splitd rfl rfl (fun h28 => ?_) (fun h28 => ?_)
    ·refine g_noA ?_
     refine g_noA ?_
     refine g_noA ?_
     refine g_nou rfl rfl rfl ?_
     refine g_nou rfl rfl rfl ?_
     refine g_noA ?_
     first | refine g_pkt ?_ | refine g_pkf ?_
     refine g_mv ?_
     refine g_noA ?_
     refine g_noA ?_
     first | refine g_pkt ?_ | refine g_pkf ?_
     refine g_pure (p_not rfl) rfl ?_
     refine g_nil <| g_qt ?_
     refine g_iff rfl ?_
     refine g_skip <| g_qb <| g_qt <| g_region ?_
     refine g_mv ?_
     first | refine g_pure (p_addi rfl rfl (by omega)) rfl ?_ | refine g_pure (p_add rfl rfl) rfl ?_
     refine g_as ?_
     refine g_nil <| g_qn ?_
     exact g_nextA (k + 1) ⟨hkl, t1 (c1 (by omega))⟩ (by omega)
    ·refine g_yesA ?_
     refine g_mv ?_
     refine g_yesA ?_
     refine g_pure (p_geq rfl rfl) rfl ?_
     refine g_yesA ?_
     refine g_mv ?_
     refine g_splitd rfl rfl (fun h32 => ?_) (fun h32 => ?_)
     ·refine g_yesA ?_
      refine g_mv ?_
      refine g_yesA ?_
      refine g_pure (p_leq rfl rfl) rfl ?_
      refine g_yesA ?_
      first | refine g_pkt ?_ | refine g_pkf ?_
      first | refine g_pkt ?_ | refine g_pkf ?_
      refine g_mv ?_
      refine g_splitd rfl rfl (fun h33 => ?_) (fun h33 => ?_)
      ·refine g_noA ?_
       refine g_noA ?_
       first | refine g_pkt ?_ | refine g_pkf ?_
       refine g_pure (p_not rfl) rfl ?_
       refine g_nil <| g_qt ?_
       refine g_iff rfl ?_
       refine g_skip <| g_qb <| g_qt <| g_region ?_
       refine g_mv ?_
       first | refine g_pure (p_addi rfl rfl (by omega)) rfl ?_ | refine g_pure (p_add rfl rfl) rfl ?_
       refine g_as ?_
       refine g_nil <| g_qn ?_
       exact g_nextA (k + 1) ⟨hkl, t1 (c1 (by omega))⟩ (by omega)
      ·refine g_yesA ?_
       refine g_mv ?_
       refine g_yesA ?_
       refine g_pure (p_eql rfl rfl) rfl ?_
       first | refine g_pkt ?_ | refine g_pkf ?_
       refine g_pure (p_not rfl) rfl ?_
       refine g_nil <| g_qt ?_
       refine g_ifndL rfl (fun h35 => ?_) (fun h35 => ?_)
       ·refine g_seq <| g_region ?_
        refine g_as ?_
        refine g_nil <| g_qt <| g_ret <| g_qb_ret <| g_qt_ret <| g_qn_ret <| g_qb_ret <| g_qt_ret ?_
        exact g_postA (rs := [.tmp 2]) rfl (.tmp rfl .nil) ⟨by rw [t2 (c2 (by omega))]; rfl, rfl⟩
       ·refine g_skip <| g_qb <| g_qt <| g_region ?_
        refine g_mv ?_
        first | refine g_pure (p_addi rfl rfl (by omega)) rfl ?_ | refine g_pure (p_add rfl rfl) rfl ?_
        refine g_as ?_
        refine g_nil <| g_qn ?_
        exact g_nextA (k + 1) ⟨hkl, t1 (c1 (by omega))⟩ (by omega)
     ·refine g_noA ?_
      refine g_noA ?_
      refine g_yesA ?_
      first | refine g_pkt ?_ | refine g_pkf ?_
      first | refine g_pkt ?_ | refine g_pkf ?_
      refine g_mv ?_
      refine g_yesA ?_
      refine g_mv ?_
      refine g_yesA ?_
      refine g_pure (p_eql rfl rfl) rfl ?_
      first | refine g_pkt ?_ | refine g_pkf ?_
      refine g_pure (p_not rfl) rfl ?_
      refine g_nil <| g_qt ?_
      refine g_ifndL rfl (fun h37 => ?_) (fun h37 => ?_)
      ·refine g_seq <| g_region ?_
       refine g_as ?_
       refine g_nil <| g_qt <| g_ret <| g_qb_ret <| g_qt_ret <| g_qn_ret <| g_qb_ret <| g_qt_ret ?_
       exact g_postA (rs := [.tmp 2]) rfl (.tmp rfl .nil) ⟨by rw [t2 (c2 (by omega))]; rfl, rfl⟩
      ·refine g_skip <| g_qb <| g_qt <| g_region ?_
       refine g_mv ?_
       first | refine g_pure (p_addi rfl rfl (by omega)) rfl ?_ | refine g_pure (p_add rfl rfl) rfl ?_
       refine g_as ?_
       refine g_nil <| g_qn ?_
       exact g_nextA (k + 1) ⟨hkl, t1 (c1 (by omega))⟩ (by omega)
   ·refine g_noA ?_
    refine g_noA ?_
    refine g_yesA ?_
    first | refine g_pkt ?_ | refine g_pkf ?_
    first | refine g_pkt ?_ | refine g_pkf ?_
    refine g_mv ?_
    refine g_yesA ?_
    refine g_mv ?_
    refine g_yesA ?_
    refine g_pure (p_geq rfl rfl) rfl ?_
    refine g_yesA ?_
    refine g_mv ?_
    refine g_splitd rfl rfl (fun h39 => ?_) (fun h39 => ?_)
    ·refine g_yesA ?_
     refine g_mv ?_
     refine g_yesA ?_
     refine g_pure (p_leq rfl rfl) rfl ?_
     refine g_yesA ?_
     first | refine g_pkt ?_ | refine g_pkf ?_
     first | refine g_pkt ?_ | refine g_pkf ?_
     refine g_mv ?_
     refine g_splitd rfl rfl (fun h40 => ?_) (fun h40 => ?_)
     ·refine g_noA ?_
      refine g_noA ?_
      first | refine g_pkt ?_ | refine g_pkf ?_
      refine g_pure (p_not rfl) rfl ?_
      refine g_nil <| g_qt ?_
      refine g_iff rfl ?_
      refine g_skip <| g_qb <| g_qt <| g_region ?_
      refine g_mv ?_
      first | refine g_pure (p_addi rfl rfl (by omega)) rfl ?_ | refine g_pure (p_add rfl rfl) rfl ?_
      refine g_as ?_
      refine g_nil <| g_qn ?_
      exact g_nextA (k + 1) ⟨hkl, t1 (c1 (by omega))⟩ (by omega)
     ·refine g_yesA ?_
      refine g_mv ?_
      refine g_yesA ?_
      refine g_pure (p_eql rfl rfl) rfl ?_
      first | refine g_pkt ?_ | refine g_pkf ?_
      refine g_pure (p_not rfl) rfl ?_
      refine g_nil <| g_qt ?_
      refine g_ifndL rfl (fun h42 => ?_) (fun h42 => ?_)
      ·refine g_seq <| g_region ?_
       refine g_as ?_
       refine g_nil <| g_qt <| g_ret <| g_qb_ret <| g_qt_ret <| g_qn_ret <| g_qb_ret <| g_qt_ret ?_
       exact g_postA (rs := [.tmp 2]) rfl (.tmp rfl .nil) ⟨by rw [t2 (c2 (by omega))]; rfl, rfl⟩
      ·refine g_skip <| g_qb <| g_qt <| g_region ?_
       refine g_mv ?_
       first | refine g_pure (p_addi rfl rfl (by omega)) rfl ?_ | refine g_pure (p_add rfl rfl) rfl ?_
       refine g_as ?_
       refine g_nil <| g_qn ?_
       exact g_nextA (k + 1) ⟨hkl, t1 (c1 (by omega))⟩ (by omega)
    ·refine g_noA ?_
     refine g_noA ?_
     refine g_yesA ?_
     first | refine g_pkt ?_ | refine g_pkf ?_
     first | refine g_pkt ?_ | refine g_pkf ?_
     refine g_mv ?_
     refine g_yesA ?_
     refine g_mv ?_
     refine g_yesA ?_
     refine g_pure (p_eql rfl rfl) rfl ?_
     first | refine g_pkt ?_ | refine g_pkf ?_
     refine g_pure (p_not rfl) rfl ?_
     refine g_nil <| g_qt ?_
     refine g_ifndL rfl (fun h44 => ?_) (fun h44 => ?_)
     ·refine g_seq <| g_region ?_
      refine g_as ?_
      refine g_nil <| g_qt <| g_ret <| g_qb_ret <| g_qt_ret <| g_qn_ret <| g_qb_ret <| g_qt_ret ?_
      exact g_postA (rs := [.tmp 2]) rfl (.tmp rfl .nil) ⟨by rw [t2 (c2 (by omega))]; rfl, rfl⟩
     ·refine g_skip <| g_qb <| g_qt <| g_region ?_
      refine g_mv ?_
      first | refine g_pure (p_addi rfl rfl (by omega)) rfl ?_ | refine g_pure (p_add rfl rfl) rfl ?_
      refine g_as ?_
      refine g_nil <| g_qn ?_
      exact g_nextA (k + 1) ⟨hkl, t1 (c1 (by omega))⟩ (by omega)
 ·rw [List.take_of_length_le (by omega)] at hk2
  refine g_exit <| g_qt_exit <| g_qn_exit <| g_qb_exit <| g_qt <| g_seq <| g_region ?_
  refine g_as ?_
  refine g_nil <| g_qt <| g_ret ?_
  exact g_postA (rs := [.tmp 2]) rfl (.tmp rfl .nil) ⟨by rw [hk2]; rfl, rfl⟩

theorem rtyped_ok {ρ : Nat → Obj → Prop} (ea la : Option Addr) (ec lc n : Nat) (hn : n ≤ 17592186044416) (l : List Int) (h : RSl ρ 1 la l.length (l.map encI)) (hl : l.length ≤ 17592186044416) :
  Con Tryz.prog ρ 65 #[.slice ea n ec, .slice la l.length lc] [] (fun v H => v = .bool (l.all (typedB n)) ∧ H = []) := by
 obtain ⟨_, b1, o1, c1, T1, f1, hr1⟩ := h
 refine con_intro Tryz.func65 Tryz.call65 rfl Tryz.ntmps65 rfl (L := [(0, _), (1, _)]) rfl fun w hh => ?_
 refine g_seq <| g_region ?_
 refine g_as ?_
 refine g_nil <| g_qt <| g_seq <| g_seq <| g_region ?_
 refine g_as ?_
 refine g_nil <| g_qt <| g_block ?_
 refine g_loop (fun k : Nat => [(0, .slice ea n ec), (1, .slice la l.length lc), (5, .int .i64 k)]) (fun _ => []) (fun k => k ≤ l.length ∧ (l.take k).all (typedB n) = true) (fun k => l.length - k) 0 ⟨Nat.zero_le _, rfl⟩ (by (repeat (first | exact trivial | refine ⟨by rfl, ?_⟩)); done) (by repeat' (first | exact Cover.nil | exact Take.here | apply Cover.cons | apply Take.there)) ?_
 rintro k ⟨hk1, hk2⟩
 refine g_seq <| g_seq <| g_region ?_
 refine g_mv ?_
 refine g_mv ?_
 refine g_pure (p_len (by rfl) rfl) rfl ?_
 refine g_pure (p_lss rfl rfl) rfl ?_
 refine g_nil <| g_qt ?_
 refine g_ifd rfl (fun q => ?_) (fun q => ?_)
 ·have hkl : k < l.length := by omega
  obtain ⟨t1, t2⟩ := take_int hkl hk2
  have hx : c1[o1 + (k : Int).toNat * 1]? = some (.int .i64 l[k]) := by
   rw [Int.toNat_natCast, Nat.mul_one]
   exact (hr1 (by omega)).2.2 k _ (by simp [List.getElem?_eq_getElem hkl, encI])
  generalize l[k] = x at t1 t2 hx
  have b1 : 1 ≤ x ∧ x < 3 + (n : Int) → typedB n x = true := fun h => decide_eq_true h
  have b2 : ¬ (1 ≤ x ∧ x < 3 + (n : Int)) → typedB n x = false := fun h => decide_eq_false h
  refine g_skip <| g_qt <| g_seq <| g_block <| g_seq <| g_region ?_
  refine g_mv ?_
  refine g_mv ?_
  refine g_pure (p_indexAddr rfl rfl (by omega) (fun _ => (hr1 (by omega)).1)) rfl ?_
  refine g_pure (p_load (by rfl) rfl (Has.ro (hr1 (by omega)).2.1) hx) rfl ?_
  refine g_pure (p_lss rfl rfl) rfl ?_
  refine g_mv ?_
  refine g_splitd rfl rfl (fun h1 => ?_) (fun h1 => ?_)
  ·refine g_noA ?_
   refine g_noA ?_
   refine g_noA ?_
   refine g_noA ?_
   refine g_noA ?_
   refine g_noA ?_
   refine g_noA ?_
   refine g_noA ?_
   first | refine g_pkt ?_ | refine g_pkf ?_
   refine g_nil <| g_qt ?_
   refine g_ift rfl ?_
   refine g_seq <| g_region ?_
   refine g_as ?_
   refine g_nil <| g_qt <| g_ret <| g_qb_ret <| g_qt_ret <| g_qn_ret <| g_qb_ret <| g_qt_ret ?_
   exact g_postA (rs := [.tmp 4]) rfl (.tmp rfl .nil) ⟨by rw [t2 (b2 (by omega))]; rfl, rfl⟩
  ·refine g_yesA ?_
   refine g_mv ?_
   refine g_yesA ?_
   refine g_mv ?_
   refine g_yesA ?_
   refine g_pure (p_indexAddr rfl rfl (by omega) (fun _ => (hr1 (by omega)).1)) rfl ?_
   refine g_yesA ?_
   refine g_pure (p_load (by rfl) rfl (Has.ro (hr1 (by omega)).2.1) hx) rfl ?_
   refine g_yesA ?_
   refine g_mv ?_
   refine g_yesA ?_
   refine g_pure (p_len (by rfl) rfl) rfl ?_
   refine g_yesA ?_
   first | refine g_pure (p_addi rfl rfl (by omega)) rfl ?_ | refine g_pure (p_add rfl rfl) rfl ?_
   refine g_yesA ?_
   refine g_pure (p_geq rfl rfl) rfl ?_
   first | refine g_pkt ?_ | refine g_pkf ?_
   refine g_nil <| g_qt ?_
   refine g_ifdL rfl (fun h3 => ?_) (fun h3 => ?_)
   ·refine g_seq <| g_region ?_
    refine g_as ?_
    refine g_nil <| g_qt <| g_ret <| g_qb_ret <| g_qt_ret <| g_qn_ret <| g_qb_ret <| g_qt_ret ?_
    exact g_postA (rs := [.tmp 4]) rfl (.tmp rfl .nil) ⟨by rw [t2 (b2 (by omega))]; rfl, rfl⟩
   ·refine g_skip <| g_qb <| g_qt <| g_region ?_
    refine g_mv ?_
    first | refine g_pure (p_addi rfl rfl (by omega)) rfl ?_ | refine g_pure (p_add rfl rfl) rfl ?_
    refine g_as ?_
    refine g_nil <| g_qn ?_
    exact g_nextA (k + 1) ⟨hkl, t1 (b1 (by omega))⟩ (by omega)
 ·rw [List.take_of_length_le (by omega)] at hk2
  refine g_exit <| g_qt_exit <| g_qn_exit <| g_qb_exit <| g_qt <| g_seq <| g_region ?_
  refine g_as ?_
  refine g_nil <| g_qt <| g_ret ?_
  exact g_postA (rs := [.tmp 4]) rfl (.tmp rfl .nil) ⟨by rw [hk2]; rfl, rfl⟩

theorem rwithin_ok {ρ : Nat → Obj → Prop} (x n m : Int) (hm : I64 m) : Con Tryz.prog ρ 86 #[.int .i64 x, .int .i64 n, .int .i64 m] [] (fun v H => v = .bool (decide (withinP x n m)) ∧ H = []) := by
 obtain ⟨hm1, hm2⟩ := hm
 have hw : withinP x n m ↔ 0 ≤ x ∧ x ≤ m ∧ n ≤ m - x := Iff.rfl
 refine con_intro Tryz.func86 Tryz.call86 rfl Tryz.ntmps86 rfl (L := [(0, _), (1, _), (2, _)]) rfl fun w hh => ?_
 refine g_seq <| g_region ?_
 refine g_as ?_
 refine g_nil <| g_qt <| g_seq <| g_region ?_
 refine g_mv ?_
 refine g_pure (p_geq rfl rfl) rfl ?_
 refine g_mv ?_
 refine g_splitd rfl rfl (fun h1 => ?_) (fun h1 => ?_)
 ·refine g_yesA ?_
  refine g_mv ?_
  refine g_yesA ?_
  refine g_mv ?_
  refine g_yesA ?_
  refine g_pure (p_leq rfl rfl) rfl ?_
  first | refine g_pkt ?_ | refine g_pkf ?_
  refine g_mv ?_
  refine g_splitd rfl rfl (fun h2 => ?_) (fun h2 => ?_)
  ·refine g_yesA ?_
   refine g_mv ?_
   refine g_yesA ?_
   refine g_mv ?_
   refine g_yesA ?_
   refine g_mv ?_
   refine g_yesA ?_
   first | refine g_pure (p_subi rfl rfl (by omega)) rfl ?_ | refine g_pure (p_sub rfl rfl) rfl ?_
   refine g_yesA ?_
   refine g_pure (p_leq rfl rfl) rfl ?_
   first | refine g_pkt ?_ | refine g_pkf ?_
   refine g_as ?_
   refine g_nil <| g_qt <| g_ret ?_
   first | exact g_postA (rs := [.tmp 6]) rfl (.tmp rfl .nil) ⟨show Value.bool false = _ by (rw [decide_eq_false (fun h => by have := hw.1 h; omega)]), rfl⟩ | exact g_postA (rs := [.tmp 6]) rfl (.tmp rfl .nil) ⟨show Value.bool (decide (n ≤ m - x)) = _ by (congr 1; exact decide_eq_decide.2 (by rw [hw]; omega)), rfl⟩
  ·refine g_noA ?_
   refine g_noA ?_
   refine g_noA ?_
   refine g_noA ?_
   refine g_noA ?_
   first | refine g_pkt ?_ | refine g_pkf ?_
   refine g_as ?_
   refine g_nil <| g_qt <| g_ret ?_
   first | exact g_postA (rs := [.tmp 6]) rfl (.tmp rfl .nil) ⟨show Value.bool false = _ by (rw [decide_eq_false (fun h => by have := hw.1 h; omega)]), rfl⟩ | exact g_postA (rs := [.tmp 6]) rfl (.tmp rfl .nil) ⟨show Value.bool (decide (n ≤ m - x)) = _ by (congr 1; exact decide_eq_decide.2 (by rw [hw]; omega)), rfl⟩
 ·refine g_noA ?_
  refine g_noA ?_
  refine g_noA ?_
  first | refine g_pkt ?_ | refine g_pkf ?_
  refine g_mv ?_
  refine g_noA ?_
  refine g_noA ?_
  refine g_noA ?_
  refine g_noA ?_
  refine g_noA ?_
  first | refine g_pkt ?_ | refine g_pkf ?_
  refine g_as ?_
  refine g_nil <| g_qt <| g_ret ?_
  first | exact g_postA (rs := [.tmp 6]) rfl (.tmp rfl .nil) ⟨show Value.bool false = _ by (rw [decide_eq_false (fun h => by have := hw.1 h; omega)]), rfl⟩ | exact g_postA (rs := [.tmp 6]) rfl (.tmp rfl .nil) ⟨show Value.bool (decide (n ≤ m - x)) = _ by (congr 1; exact decide_eq_decide.2 (by rw [hw]; omega)), rfl⟩

theorem rhas_ok {ρ : Nat → Obj → Prop} (s : List UInt8) (c : UInt8) (hs : s.length ≤ 100) : Con Tryz.prog ρ 85 #[.string (strB s), .int .u8 c.toNat] [] (fun v H => v = .bool (s.contains c) ∧ H = []) := by
 have hsz : (strB s).size = s.length := rfl
 refine con_intro Tryz.func85 Tryz.call85 rfl Tryz.ntmps85 rfl (L := [(0, _), (1, _)]) rfl fun w hh => ?_
 refine g_seq <| g_region ?_
 refine g_as ?_
 refine g_nil <| g_qt <| g_seq <| g_seq <| g_region ?_
 refine g_as ?_
 refine g_nil <| g_qt <| g_block ?_
 refine g_loop (fun k : Nat => [(0, .string (strB s)), (1, .int .u8 c.toNat), (5, .int .i64 k)]) (fun _ => []) (fun k => k ≤ s.length ∧ c ∉ s.take k) (fun k => s.length - k) 0 ⟨Nat.zero_le _, by simp⟩ (by (repeat (first | exact trivial | refine ⟨by rfl, ?_⟩)); done) (by repeat' (first | exact Cover.nil | exact Take.here | apply Cover.cons | apply Take.there)) ?_
 rintro k ⟨hk1, hk2⟩
 refine g_seq <| g_seq <| g_region ?_
 refine g_mv ?_
 refine g_mv ?_
 refine g_pure (p_lens (by rfl) rfl) rfl ?_
 refine g_pure (p_lss rfl rfl) rfl ?_
 refine g_nil <| g_qt ?_
 refine g_ifd rfl (fun q => ?_) (fun q => ?_)
 ·have hkl : k < s.length := by omega
  obtain ⟨t1, t2⟩ := contains_take hkl hk2
  refine g_skip <| g_qt <| g_seq <| g_block <| g_seq <| g_region ?_
  refine g_mv ?_
  refine g_mv ?_
  refine g_pure (p_indexs (by rfl) rfl rfl (by omega) (strB_at s hkl)) rfl ?_
  refine g_mv ?_
  refine g_pure (p_eql rfl rfl) rfl ?_
  refine g_nil <| g_qt ?_
  refine g_ifd rfl (fun h => ?_) (fun h => ?_)
  ·have he : s[k] = c := UInt8.toNat_inj.1 (by omega)
   refine g_seq <| g_region ?_
   refine g_as ?_
   refine g_nil <| g_qt <| g_ret <| g_qb_ret <| g_qt_ret <| g_qn_ret <| g_qb_ret <| g_qt_ret ?_
   exact g_postA (rs := [.tmp 4]) rfl (.tmp rfl .nil) ⟨by rw [t1 he]; rfl, rfl⟩
  ·have he : s[k] ≠ c := fun e => h (by rw [e])
   refine g_skip <| g_qb <| g_qt <| g_region ?_
   refine g_mv ?_
   first | refine g_pure (p_addi rfl rfl (by omega)) rfl ?_ | refine g_pure (p_add rfl rfl) rfl ?_
   refine g_as ?_
   refine g_nil <| g_qn ?_
   exact g_nextA (k + 1) ⟨hkl, t2 he⟩ (by omega)
 ·rw [List.take_of_length_le (by omega)] at hk2
  refine g_exit <| g_qt_exit <| g_qn_exit <| g_qb_exit <| g_qt <| g_seq <| g_region ?_
  refine g_as ?_
  refine g_nil <| g_qt <| g_ret ?_
  exact g_postA (rs := [.tmp 4]) rfl (.tmp rfl .nil) ⟨by rw [List.contains_eq_mem, decide_eq_false hk2]; rfl, rfl⟩

theorem fieldsR_at {op : Int} (h : knownP op) : (fieldsRT.map fun l => Value.string (strB l))[0 + op.toNat * 1]? = some (.string (strB (fieldsR op))) := by
 unfold fieldsR
 rw [if_pos h]
 rcases op_cases h with rfl | rfl | rfl | rfl | rfl | rfl | rfl | rfl | rfl | rfl <;> rfl
theorem rfields_ok {ρ : Nat → Obj → Prop} (op : Int) : Con Tryz.prog ρ 46 #[.int .i64 op] [] (fun v H => v = .string (strB (fieldsR op)) ∧ H = []) := by
 have hN : ¬ knownP op → fieldsR op = [] := fun h => by unfold fieldsR; rw [if_neg h]
 have hk : knownP op ↔ 1 ≤ op ∧ op ≤ 10 := Iff.rfl
 refine con_intro Tryz.func46 Tryz.call46 rfl Tryz.ntmps46 rfl (L := [(0, _)]) rfl fun w hh => ?_
 refine g_seq <| g_region ?_
 refine g_as ?_
 refine g_nil <| g_qt <| g_seq <| g_region ?_
 refine g_eff (e_bs (xs := [.const (.string (⟨#[]⟩)), .const (.string (⟨#[65, 66]⟩)), .const (.string (⟨#[65, 66]⟩)), .const (.string (⟨#[65, 66]⟩)), .const (.string (⟨#[65, 66]⟩)), .const (.string (⟨#[65, 66, 67]⟩)), .const (.string (⟨#[65, 66, 67, 68]⟩)), .const (.string (⟨#[66]⟩)), .const (.string (⟨#[65, 66]⟩)), .const (.string (⟨#[65, 66, 67, 68]⟩)), .const (.string (⟨#[65, 66]⟩))]) rfl rfl rfl (by rfl) (by rfl) rfl (by rfl)) rfl (fun _ _ => ?_)
 rintro ⟨b4, rfl, rfl⟩
 refine g_as ?_
 refine g_nil <| g_qt <| g_seq <| g_seq <| g_region ?_
 refine g_mv ?_
 refine g_pure (p_lss rfl rfl) rfl ?_
 refine g_mv ?_
 refine g_splitd rfl rfl (fun h1 => ?_) (fun h1 => ?_)
 ·refine g_noA ?_
  refine g_noA ?_
  first | refine g_pkt ?_ | refine g_pkf ?_
  refine g_nil <| g_qt ?_
  refine g_ift rfl ?_
  refine g_seq <| g_region ?_
  refine g_as ?_
  refine g_nil <| g_qt <| g_ret <| g_qt_ret ?_
  first | exact g_postA (rs := [.tmp 2]) rfl (.tmp rfl .nil) ⟨rfl, rfl⟩ | exact g_postA (rs := [.tmp 2]) rfl (.tmp rfl .nil) ⟨by rw [hN (fun h => by have := hk.1 h; omega)]; rfl, rfl⟩
 ·refine g_yesA ?_
  refine g_mv ?_
  refine g_yesA ?_
  refine g_pure (p_gtr rfl rfl) rfl ?_
  first | refine g_pkt ?_ | refine g_pkf ?_
  refine g_nil <| g_qt ?_
  refine g_ifdL rfl (fun h3 => ?_) (fun h3 => ?_)
  ·refine g_seq <| g_region ?_
   refine g_as ?_
   refine g_nil <| g_qt <| g_ret <| g_qt_ret ?_
   first | exact g_postA (rs := [.tmp 2]) rfl (.tmp rfl .nil) ⟨rfl, rfl⟩ | exact g_postA (rs := [.tmp 2]) rfl (.tmp rfl .nil) ⟨by rw [hN (fun h => by have := hk.1 h; omega)]; rfl, rfl⟩
  ·refine g_skip <| g_qt <| g_seq <| g_region ?_
   refine g_mv ?_
   refine g_mv ?_
   refine g_pure (p_indexAddr rfl rfl (by omega) (fun _ => rfl)) rfl ?_
   refine g_pure (p_load (v := .string (strB (fieldsR op))) (by rfl) rfl (Has.own (by repeat' (first | exact Take.here | apply Take.there))) (fieldsR_at (hk.2 ⟨by omega, by omega⟩))) rfl ?_
   refine g_as ?_
   refine g_nil <| g_qt <| g_ret ?_
   first | exact g_postA (rs := [.tmp 2]) rfl (.tmp rfl .nil) ⟨rfl, rfl⟩ | exact g_postA (rs := [.tmp 2]) rfl (.tmp rfl .nil) ⟨by rw [hN (fun h => by have := hk.1 h; omega)]; rfl, rfl⟩

theorem rfield_ok {ρ : Nat → Obj → Prop} (i : Ins) (c : UInt8) : Con Tryz.prog ρ 47 #[.agg (encIns i).toArray, .int .u8 c.toNat] [] (fun v H => v = .int .i64 (fieldI i c) ∧ H = []) := by
 have e0 : fieldI i c = if c = 65 then i.2.1 else if c = 66 then i.2.2.1 else if c = 67 then i.2.2.2.1 else i.2.2.2.2 := rfl
 have n1 : c = 65 ↔ (c.toNat : Int) = 65 := by rw [← UInt8.toNat_inj]; show c.toNat = 65 ↔ _; omega
 have n2 : c = 66 ↔ (c.toNat : Int) = 66 := by rw [← UInt8.toNat_inj]; show c.toNat = 66 ↔ _; omega
 have n3 : c = 67 ↔ (c.toNat : Int) = 67 := by rw [← UInt8.toNat_inj]; show c.toNat = 67 ↔ _; omega
 simp only [n1, n2, n3] at e0
 generalize fieldI i c = r at e0 ⊢
 refine con_intro Tryz.func47 Tryz.call47 rfl Tryz.ntmps47 rfl (L := [(0, _), (1, _)]) rfl fun w hh => ?_
 refine g_seq <| g_region ?_
 refine g_eff (e_box rfl (by rfl)) rfl (fun _ _ => ?_)
 rintro ⟨b2, rfl, rfl⟩
 refine g_as ?_
 refine g_nil <| g_qt <| g_seq <| g_seq <| g_region ?_
 refine g_mv ?_
 refine g_nil <| g_qt <| g_block <| g_seq <| g_region ?_
 refine g_pure (p_eql rfl rfl) rfl ?_
 refine g_as ?_
 refine g_nil <| g_qt ?_
 refine g_ifdL rfl (fun h1 => ?_) (fun h1 => ?_)
 ·refine g_seq <| g_region ?_
  refine g_fa ?_
  refine g_ld ?_
  refine g_as ?_
  refine g_nil <| g_qt <| g_ret <| g_qb_ret <| g_qt_ret ?_
  first | (obtain rfl : r = i.2.1 := e0.trans (if_pos (by omega)); exact g_postA (rs := [.tmp 4]) rfl (.tmp rfl .nil) ⟨rfl, rfl⟩) | (obtain rfl : r = i.2.2.1 := e0.trans ((if_neg (by omega)).trans (if_pos (by omega))); exact g_postA (rs := [.tmp 4]) rfl (.tmp rfl .nil) ⟨rfl, rfl⟩) | (obtain rfl : r = i.2.2.2.1 := e0.trans ((if_neg (by omega)).trans ((if_neg (by omega)).trans (if_pos (by omega)))); exact g_postA (rs := [.tmp 4]) rfl (.tmp rfl .nil) ⟨rfl, rfl⟩) | (obtain rfl : r = i.2.2.2.2 := e0.trans ((if_neg (by omega)).trans ((if_neg (by omega)).trans (if_neg (by omega)))); exact g_postA (rs := [.tmp 4]) rfl (.tmp rfl .nil) ⟨rfl, rfl⟩)
 ·refine g_seq <| g_region ?_
  refine g_pure (p_eql rfl rfl) rfl ?_
  refine g_as ?_
  refine g_nil <| g_qt ?_
  refine g_ifdL rfl (fun h2 => ?_) (fun h2 => ?_)
  ·refine g_seq <| g_region ?_
   refine g_fa ?_
   refine g_ld ?_
   refine g_as ?_
   refine g_nil <| g_qt <| g_ret <| g_qb_ret <| g_qt_ret ?_
   first | (obtain rfl : r = i.2.1 := e0.trans (if_pos (by omega)); exact g_postA (rs := [.tmp 4]) rfl (.tmp rfl .nil) ⟨rfl, rfl⟩) | (obtain rfl : r = i.2.2.1 := e0.trans ((if_neg (by omega)).trans (if_pos (by omega))); exact g_postA (rs := [.tmp 4]) rfl (.tmp rfl .nil) ⟨rfl, rfl⟩) | (obtain rfl : r = i.2.2.2.1 := e0.trans ((if_neg (by omega)).trans ((if_neg (by omega)).trans (if_pos (by omega)))); exact g_postA (rs := [.tmp 4]) rfl (.tmp rfl .nil) ⟨rfl, rfl⟩) | (obtain rfl : r = i.2.2.2.2 := e0.trans ((if_neg (by omega)).trans ((if_neg (by omega)).trans (if_neg (by omega)))); exact g_postA (rs := [.tmp 4]) rfl (.tmp rfl .nil) ⟨rfl, rfl⟩)
  ·refine g_seq <| g_region ?_
   refine g_pure (p_eql rfl rfl) rfl ?_
   refine g_as ?_
   refine g_nil <| g_qt ?_
   refine g_ifdL rfl (fun h3 => ?_) (fun h3 => ?_)
   ·refine g_seq <| g_region ?_
    refine g_fa ?_
    refine g_ld ?_
    refine g_as ?_
    refine g_nil <| g_qt <| g_ret <| g_qb_ret <| g_qt_ret ?_
    first | (obtain rfl : r = i.2.1 := e0.trans (if_pos (by omega)); exact g_postA (rs := [.tmp 4]) rfl (.tmp rfl .nil) ⟨rfl, rfl⟩) | (obtain rfl : r = i.2.2.1 := e0.trans ((if_neg (by omega)).trans (if_pos (by omega))); exact g_postA (rs := [.tmp 4]) rfl (.tmp rfl .nil) ⟨rfl, rfl⟩) | (obtain rfl : r = i.2.2.2.1 := e0.trans ((if_neg (by omega)).trans ((if_neg (by omega)).trans (if_pos (by omega)))); exact g_postA (rs := [.tmp 4]) rfl (.tmp rfl .nil) ⟨rfl, rfl⟩) | (obtain rfl : r = i.2.2.2.2 := e0.trans ((if_neg (by omega)).trans ((if_neg (by omega)).trans (if_neg (by omega)))); exact g_postA (rs := [.tmp 4]) rfl (.tmp rfl .nil) ⟨rfl, rfl⟩)
   ·refine g_skip <| g_qb <| g_qt <| g_seq <| g_region ?_
    refine g_fa ?_
    refine g_ld ?_
    refine g_as ?_
    refine g_nil <| g_qt <| g_ret ?_
    first | (obtain rfl : r = i.2.1 := e0.trans (if_pos (by omega)); exact g_postA (rs := [.tmp 4]) rfl (.tmp rfl .nil) ⟨rfl, rfl⟩) | (obtain rfl : r = i.2.2.1 := e0.trans ((if_neg (by omega)).trans (if_pos (by omega))); exact g_postA (rs := [.tmp 4]) rfl (.tmp rfl .nil) ⟨rfl, rfl⟩) | (obtain rfl : r = i.2.2.2.1 := e0.trans ((if_neg (by omega)).trans ((if_neg (by omega)).trans (if_pos (by omega)))); exact g_postA (rs := [.tmp 4]) rfl (.tmp rfl .nil) ⟨rfl, rfl⟩) | (obtain rfl : r = i.2.2.2.2 := e0.trans ((if_neg (by omega)).trans ((if_neg (by omega)).trans (if_neg (by omega)))); exact g_postA (rs := [.tmp 4]) rfl (.tmp rfl .nil) ⟨rfl, rfl⟩)
end Go.Proofs.YtcnfcoojmbjdlaaGreatDoor
/- Chapter 26: the document's numerals, lines and words. Conditions: none. -/
namespace Go.Z
set_option maxRecDepth 8000
set_option linter.unusedVariables false
set_option linter.unusedSimpArgs false
set_option linter.unusedSectionVars false
open Go
variable {P : Program} {n : Nat} {L : Fr} {H : List Assn} {M : Mx}
variable {dd : Option Tmp} {ty t : TypeId} {ps : String} {af : Array Edge} {gd : Option (Nat × Bool)} {x y : Operand} {tz : TypeId} {yt : Ty}
theorem p_addB {a b : List UInt8} [ht : TyC P t yt] (hd : yt.d = .string) (h1 : ev L x = some (.string (Asm.strB a))) (h2 : ev L y = some (.string (Asm.strB b))) (hl : a.length + b.length ≤ 9223372036854775807) : Pur P M n L H ⟨dd, .binOp .add t x y tz, ty, ps, af, gd⟩ (.string (Asm.strB (a ++ b))) := by
 have := p_adds (P := P) (M := M) (n := n) (L := L) (H := H) (dd := dd) (t := t) (ty := ty) (ps := ps) (af := af) (gd := gd) (tz := tz) hd h1 h2 hl
 rw [← Asm.strB_app] at this
 exact this
theorem p_convb {src dst : TypeId} {ys yd : Ty} {k : IntKind} {i : Int} [hs : TyC P src ys] [hde : TyC P dst yd] (hk : yd.d = .int .u8) (h1 : ev L x = some (.int k i)) (h : 0 ≤ i ∧ i ≤ 255) : Pur P M n L H ⟨dd, .convert src dst x, ty, ps, af, gd⟩ (.int .u8 i) := by
 have := p_conv (P := P) (M := M) (n := n) (H := H) (dd := dd) (ty := ty) (ps := ps) (af := af) (gd := gd) (src := src) (dst := dst) hk h1
 rwa [IntWalk.u8_in i (by omega)] at this
end Go.Z
namespace Go.Z.Asm
set_option maxRecDepth 8000
set_option linter.unusedVariables false
set_option linter.unusedSimpArgs false
set_option linter.unusedSectionVars false
open Go Go.Z Go.Lib Go.Z.Txt Go.Z.Val
theorem okI_len {n : Int} (h : okI n) : (itoa n).length ≤ 11 := itoa_len (by obtain ⟨h1, h2⟩ := h; omega)
def midP (w : List UInt8) (l : List Int) : List UInt8 := w ++ (l.map fun n => 32 :: itoa n).flatten
theorem midP_step (w : List UInt8) (l : List Int) {k : Nat} (hk : k < l.length) : midP w (l.take (k + 1)) = midP w (l.take k) ++ [32] ++ itoa l[k] := by
 unfold midP
 rw [List.take_add_one, List.getElem?_eq_getElem hk, Option.toList_some, List.map_append, List.flatten_append]; simp
theorem midP_len (w : List UInt8) : ∀ (l : List Int), (∀ n ∈ l, okI n) → (midP w l).length ≤ w.length + 12 * l.length
 | [], _ => by unfold midP; simp
 | n :: l, h => by
  have ih := midP_len w l (fun x hx => h x (List.mem_cons_of_mem _ hx))
  have h1 := okI_len (h n List.mem_cons_self)
  unfold midP at ih ⊢
  rw [List.length_append] at ih ⊢
  rw [List.map_cons, List.flatten_cons, List.length_append, List.length_cons, List.length_cons]
  omega
end Go.Z.Asm
namespace Go.Proofs.YtcnfcoojmbjdlaaGreatDoor
set_option maxRecDepth 8000
set_option linter.unusedVariables false
set_option linter.unusedSimpArgs false
set_option linter.unusedSectionVars false
open Go Go.Z Go.Z.Asm Go.RowKit Go.Z.Val

theorem rdigits_ok {ρ : Nat → Obj → Prop} (u : Nat) (hu : u ≤ 1000000000000) : Con Tryz.prog ρ 99 #[.int .i64 u] [] (fun v H => v = .string (strB (Lib.decDigits u)) ∧ H = []) := by
 have hdl := dec_len (k := 12) u (by omega)
 refine con_intro Tryz.func99 Tryz.call99 rfl Tryz.ntmps99 rfl (L := [(0, _)]) rfl fun w hh => ?_
 refine g_seq <| g_region ?_
 refine g_as ?_
 refine g_nil <| g_qt <| g_seq <| g_region ?_
 refine g_as ?_
 refine g_nil <| g_qt <| g_seq <| g_seq <| g_region ?_
 refine g_as ?_
 refine g_nil <| g_qt <| g_block ?_
 refine g_loop (fun q : Nat × List UInt8 × Bool => [(0, .int .i64 q.1), (3, .string (strB q.2.1)), (4, .bool q.2.2)]) (fun _ => [])
  (fun q => q.1 ≤ u ∧ q.2.1.length ≤ 13 ∧ (q.2.2 = true → Lib.decDigits u = Lib.decDigits q.1 ++ q.2.1) ∧ (q.2.2 = false → Lib.decDigits u = q.2.1)) (fun q => if q.2.2 = true then q.1 + 1 else 0) (u, [], true) ⟨Nat.le_refl u, Nat.zero_le _, fun _ => by simp, fun h => by cases h⟩ (by (repeat (first | exact trivial | refine ⟨by rfl, ?_⟩)); done) (by repeat' (first | exact Cover.nil | exact Take.here | apply Cover.cons | apply Take.there)) ?_
 rintro ⟨m, s, b⟩ ⟨hm, hsl, h1, h2⟩
 dsimp only at hm hsl h1 h2 ⊢
 refine g_seq <| g_seq <| g_region ?_
 refine g_mv ?_
 refine g_nil <| g_qt ?_
 refine g_if rfl (fun q => ?_) (fun q => ?_)
 ·have e1 := h1 q
  have hmb : (48 + (m : Int) % 10).toNat = 48 + m % 10 := by omega
  refine g_skip <| g_qt <| g_seq <| g_block <| g_seq <| g_region ?_
  refine g_mv ?_
  refine g_pure (p_remn rfl rfl (by decide) (by omega)) rfl ?_
  first | refine g_pure (p_addi rfl rfl (by omega)) rfl ?_ | refine g_pure (p_add rfl rfl) rfl ?_
  refine g_pure (p_convb (by rfl) rfl (by omega)) rfl ?_
  refine g_eff (e_bs (xs := [.tmp 11]) rfl rfl rfl (by rfl) (by rfl) rfl (by rfl)) rfl (fun _ _ => ?_)
  rintro ⟨b12, rfl, rfl⟩
  refine g_pure (p_bts1 (by rfl) (by rfl) rfl (Has.own (by repeat' (first | exact Take.here | apply Take.there)))) rfl ?_
  refine g_mv ?_
  refine g_pure (p_addB (a := [UInt8.ofNat (48 + (m : Int) % 10).toNat]) (b := s) (by rfl) rfl rfl (by simp; omega)) rfl ?_
  refine g_as ?_
  refine g_nil <| g_qt <| g_region ?_
  refine g_mv ?_
  refine g_pure (p_quon rfl rfl (by decide) (by omega)) rfl ?_
  refine g_as ?_
  refine g_nil <| g_qb <| g_qt <| g_region ?_
  refine g_mv ?_
  refine g_pure (p_gtr rfl rfl) rfl ?_
  refine g_as ?_
  refine g_nil <| g_qn ?_
  rw [hmb]
  rw [show (m : Int) / 10 = ((m / 10 : Nat) : Int) by omega]
  by_cases h10 : m < 10
  ·have e2 : Lib.decDigits m = [UInt8.ofNat (48 + m % 10)] := by rw [dec_small h10, Nat.mod_eq_of_lt h10]
   have e3 : Lib.decDigits u = [UInt8.ofNat (48 + m % 10)] ++ s := by rw [e1, e2]
   exact g_nextA (m / 10, [UInt8.ofNat (48 + m % 10)] ++ s, decide ((0 : Int) < ((m / 10 : Nat) : Int))) ⟨by dsimp only; omega, by dsimp only; rw [← e3]; omega, fun h => by dsimp only at h; rw [decide_eq_true_eq] at h; omega, fun _ => e3⟩ (by dsimp only; rw [if_pos q, if_neg (by rw [decide_eq_true_eq]; omega)]; omega)
  ·have e2 : Lib.decDigits m = Lib.decDigits (m / 10) ++ [UInt8.ofNat (48 + m % 10)] := dec_big h10
   have e3 : Lib.decDigits u = Lib.decDigits (m / 10) ++ ([UInt8.ofNat (48 + m % 10)] ++ s) := by rw [e1, e2, List.append_assoc]
   have e4 : ([UInt8.ofNat (48 + m % 10)] ++ s).length ≤ 13 := by have := congrArg List.length e3; rw [List.length_append] at this; omega
   exact g_nextA (m / 10, [UInt8.ofNat (48 + m % 10)] ++ s, decide ((0 : Int) < ((m / 10 : Nat) : Int))) ⟨by dsimp only; omega, e4, fun _ => e3, fun h => by dsimp only at h; rw [decide_eq_false_iff_not] at h; omega⟩ (by dsimp only; rw [if_pos q, if_pos (by rw [decide_eq_true_eq]; omega)]; omega)
 ·refine g_exit <| g_qt_exit <| g_qn_exit <| g_qb_exit <| g_qt <| g_seq <| g_region ?_
  refine g_mv ?_
  refine g_as ?_
  refine g_nil <| g_qt <| g_ret ?_
  exact g_postA (rs := [.tmp 2]) rfl (.tmp rfl .nil) ⟨by rw [h2 q]; rfl, rfl⟩
theorem rnumber_ok {ρ : Nat → Obj → Prop} (n : Int) (hn : okI n) : Con Tryz.prog ρ 71 #[.int .i64 n] [] (fun v H => v = .string (strB (Lib.itoa n)) ∧ H = []) := by
 obtain ⟨hn1, hn2⟩ := hn
 refine con_intro Tryz.func71 Tryz.call71 rfl Tryz.ntmps71 rfl (L := [(0, _)]) rfl fun w hh => ?_
 refine g_seq <| g_region ?_
 refine g_as ?_
 refine g_nil <| g_qt <| g_seq <| g_seq <| g_region ?_
 refine g_mv ?_
 refine g_pure (p_lss rfl rfl) rfl ?_
 refine g_nil <| g_qt ?_
 refine g_ifd rfl (fun h => ?_) (fun h => ?_)
 ·have hdl := dec_len (k := 12) n.natAbs (by omega)
  refine g_seq <| g_region ?_
  refine g_mv ?_
  first | refine g_pure (p_negi rfl (by omega)) rfl ?_ | refine g_pure (p_neg rfl) rfl ?_
  rw [show -n = ((n.natAbs : Nat) : Int) by omega]
  refine g_call (Hin := []) (Hr := ?hr1) (R := ?rr1) rfl rfl rfl ?hin1 ?hc1 ?hk1
  case hin1 => repeat' (first | exact Cover.nil | exact Take.here | apply Cover.cons | apply Take.there)
  case hc1 => intro ρ' hρ hR; exact rdigits_ok n.natAbs (by omega)
  rintro _ _ ⟨rfl, rfl⟩
  refine g_pure (p_addB (a := [45]) (b := Lib.decDigits n.natAbs) (by rfl) rfl rfl (by simp; omega)) rfl ?_
  refine g_as ?_
  refine g_nil <| g_qt <| g_ret <| g_qt_ret ?_
  exact g_postA (rs := [.tmp 2]) rfl (.tmp rfl .nil) ⟨by rw [itoa_neg h]; rfl, rfl⟩
 ·refine g_skip <| g_qt <| g_seq <| g_region ?_
  refine g_mv ?_
  rw [show n = ((n.toNat : Nat) : Int) by omega]
  refine g_call (Hin := []) (Hr := ?hr2) (R := ?rr2) rfl rfl rfl ?hin2 ?hc2 ?hk2
  case hin2 => repeat' (first | exact Cover.nil | exact Take.here | apply Cover.cons | apply Take.there)
  case hc2 => intro ρ' hρ hR; exact rdigits_ok n.toNat (by omega)
  rintro _ _ ⟨rfl, rfl⟩
  refine g_as ?_
  refine g_nil <| g_qt <| g_ret ?_
  exact g_postA (rs := [.tmp 2]) rfl (.tmp rfl .nil) ⟨by rw [itoa_pos (by omega)]; rfl, rfl⟩
theorem rline_ok {ρ : Nat → Obj → Prop} (wd : List UInt8) (a : Option Addr) (c : Nat) (l : List Int) (hl : RSl ρ 1 a l.length (l.map encI)) (hn : ∀ n ∈ l, okI n) (hb : wd.length + 12 * l.length ≤ 1000000000000) :
  Con Tryz.prog ρ 45 #[.string (strB wd), .slice a l.length c] [] (fun v H => v = .string (strB (lineP wd l)) ∧ H = []) := by
 obtain ⟨_, b1, o1, c1, T1, f1, hr1⟩ := hl
 refine con_intro Tryz.func45 Tryz.call45 rfl Tryz.ntmps45 rfl (L := [(0, _), (1, _)]) rfl fun w hh => ?_
 refine g_seq <| g_region ?_
 refine g_as ?_
 refine g_nil <| g_qt <| g_seq <| g_seq <| g_region ?_
 refine g_as ?_
 refine g_nil <| g_qt <| g_block ?_
 rw [show strB wd = strB (midP wd (l.take 0)) by unfold midP; simp]
 refine g_loop (fun k : Nat => [(0, .string (strB (midP wd (l.take k)))), (1, .slice a l.length c), (5, .int .i64 k)]) (fun _ => []) (fun k => k ≤ l.length) (fun k => l.length - k) 0 (Nat.zero_le _) (by (repeat (first | exact trivial | refine ⟨by rfl, ?_⟩)); done) (by repeat' (first | exact Cover.nil | exact Take.here | apply Cover.cons | apply Take.there)) ?_
 rintro k hk1
 have hml := midP_len wd (l.take k) (fun n h => hn n (List.mem_of_mem_take h))
 rw [List.length_take] at hml
 refine g_seq <| g_seq <| g_region ?_
 refine g_mv ?_
 refine g_mv ?_
 refine g_pure (p_len (by rfl) rfl) rfl ?_
 refine g_pure (p_lss rfl rfl) rfl ?_
 refine g_nil <| g_qt ?_
 refine g_ifd rfl (fun q => ?_) (fun q => ?_)
 ·have hkl : k < l.length := by omega
  have hx : c1[o1 + (k : Int).toNat * 1]? = some (.int .i64 l[k]) := by
   rw [Int.toNat_natCast, Nat.mul_one]
   exact (hr1 (by omega)).2.2 k _ (mapI2 l hkl)
  have hok := hn _ (List.getElem_mem hkl)
  have hol := okI_len hok
  have hst := midP_step wd l hkl
  generalize l[k] = z at hx hok hol hst
  refine g_skip <| g_qt <| g_seq <| g_block <| g_region ?_
  refine g_mv ?_
  refine g_pure (p_addB (a := midP wd (l.take k)) (b := [32]) (by rfl) rfl rfl (by simp; omega)) rfl ?_
  refine g_mv ?_
  refine g_mv ?_
  refine g_pure (p_indexAddr rfl rfl (by omega) (fun _ => (hr1 (by omega)).1)) rfl ?_
  refine g_pure (p_load (by rfl) rfl (Has.ro (hr1 (by omega)).2.1) hx) rfl ?_
  refine g_call (Hin := []) (Hr := ?hr3) (R := ?rr3) rfl rfl rfl ?hin3 ?hc3 ?hk3
  case hin3 => repeat' (first | exact Cover.nil | exact Take.here | apply Cover.cons | apply Take.there)
  case hc3 => intro ρ' hρ hR; exact rnumber_ok z hok
  rintro _ _ ⟨rfl, rfl⟩
  refine g_pure (p_addB (a := midP wd (l.take k) ++ [32]) (b := Lib.itoa z) (by rfl) rfl rfl (by simp; omega)) rfl ?_
  refine g_as ?_
  refine g_nil <| g_qb <| g_qt <| g_region ?_
  refine g_mv ?_
  first | refine g_pure (p_addi rfl rfl (by omega)) rfl ?_ | refine g_pure (p_add rfl rfl) rfl ?_
  refine g_as ?_
  refine g_nil <| g_qn ?_
  rw [← hst]
  exact g_nextA (k + 1) (by omega) (by omega)
 ·rw [List.take_of_length_le (by omega)] at hml ⊢
  refine g_exit <| g_qt_exit <| g_qn_exit <| g_qb_exit <| g_qt <| g_seq <| g_region ?_
  refine g_mv ?_
  refine g_pure (p_addB (a := midP wd l) (b := [10]) (by rfl) rfl rfl (by simp; omega)) rfl ?_
  refine g_as ?_
  refine g_nil <| g_qt <| g_ret ?_
  exact g_postA (rs := [.tmp 4]) rfl (.tmp rfl .nil) ⟨rfl, rfl⟩
theorem wordR_at {op : Int} (h : knownP op) : ((List.range 11).map fun k => Value.string (strB (wordR k)))[0 + op.toNat * 1]? = some (.string (strB (opRow op).1)) := by
 rcases op_cases h with rfl | rfl | rfl | rfl | rfl | rfl | rfl | rfl | rfl | rfl <;> rfl
theorem rword_ok {ρ : Nat → Obj → Prop} (op : Int) (h : knownP op) : Con Tryz.prog ρ 48 #[.int .i64 op] [] (fun v H => v = .string (strB (opRow op).1) ∧ H = []) := by
 have hk : 1 ≤ op ∧ op ≤ 10 := h
 refine con_intro Tryz.func48 Tryz.call48 rfl Tryz.ntmps48 rfl (L := [(0, _)]) rfl fun w hh => ?_
 refine g_seq <| g_region ?_
 refine g_as ?_
 refine g_nil <| g_qt <| g_seq <| g_region ?_
 refine g_eff (e_bs (xs := [.const (.string (⟨#[]⟩)), .const (.string (⟨#[108, 111, 97, 100]⟩)), .const (.string (⟨#[109, 111, 118, 101]⟩)), .const (.string (⟨#[114, 101, 97, 100]⟩)), .const (.string (⟨#[119, 114, 105, 116, 101]⟩)), .const (.string (⟨#[117, 110, 97, 114, 121]⟩)), .const (.string (⟨#[97, 112, 112, 108, 121]⟩)), .const (.string (⟨#[106, 117, 109, 112]⟩)), .const (.string (⟨#[122, 101, 114, 111]⟩)), .const (.string (⟨#[99, 97, 108, 108]⟩)), .const (.string (⟨#[114, 101, 115, 101, 116]⟩))]) rfl rfl rfl (by rfl) (by rfl) rfl (by rfl)) rfl (fun _ _ => ?_)
 rintro ⟨b4, rfl, rfl⟩
 refine g_as ?_
 refine g_nil <| g_qt <| g_seq <| g_region ?_
 refine g_mv ?_
 refine g_mv ?_
 refine g_pure (p_indexAddr rfl rfl (by omega) (fun _ => rfl)) rfl ?_
 refine g_pure (p_load (v := .string (strB (opRow op).1)) (by rfl) rfl (Has.own (by repeat' (first | exact Take.here | apply Take.there))) (wordR_at h)) rfl ?_
 refine g_as ?_
 refine g_nil <| g_qt <| g_ret ?_
 exact g_postA (rs := [.tmp 2]) rfl (.tmp rfl .nil) ⟨rfl, rfl⟩
end Go.Proofs.YtcnfcoojmbjdlaaGreatDoor
/- Chapter 26, plain: what was read has this text. Conditions: none. -/
namespace Go.Z.Asm
set_option maxRecDepth 8000
set_option linter.unusedVariables false
set_option linter.unusedSimpArgs false
set_option linter.unusedSectionVars false
open Go Go.Z Go.Lib Go.Z.Txt Go.Z.Val

theorem opF_some {w : List UInt8} {op : Nat} (h : opF w = some op) : 1 ≤ op ∧ op ≤ 10 ∧ wordR op = w := by
 unfold opF at h
 rw [List.find?_range_eq_some] at h
 obtain ⟨h1, h2, h3⟩ := h
 rw [decide_eq_true_eq] at h1
 rw [List.mem_range] at h2
 refine ⟨?_, by omega, h1.1⟩
 rcases Nat.eq_zero_or_pos op with h0 | h0
 ·subst h0; exact absurd h1.1.symm h1.2
 ·exact h0
theorem ins_text {W : List (List UInt8)} {i : Ins} (h : insV W = some i) : ∃ v, W.tail = v.map itoa ∧ (opRow i.1).1 = W.headD [] ∧ usedP i = v := by
 unfold insV at h
 cases e1 : opF (W.headD []) with
 | none => rw [e1] at h; cases h
 | some op =>
  rw [e1] at h
  dsimp only at h
  cases e2 : numsO W.tail with
  | none => rw [e2] at h; cases h
  | some v =>
   rw [e2] at h
   dsimp only at h
   by_cases e3 : v.length = (placesOf op).length
   ·rw [if_pos e3] at h
    injection h with h
    subst h
    obtain ⟨n1, n2, n3⟩ := opF_some e1
    refine ⟨v, (nums_some e2).1, ?_, ?_⟩
    ·rw [← n3]
     have : op = 1 ∨ op = 2 ∨ op = 3 ∨ op = 4 ∨ op = 5 ∨ op = 6 ∨ op = 7 ∨ op = 8 ∨ op = 9 ∨ op = 10 := by omega
     rcases this with rfl | rfl | rfl | rfl | rfl | rfl | rfl | rfl | rfl | rfl <;> rfl
    ·have : op = 1 ∨ op = 2 ∨ op = 3 ∨ op = 4 ∨ op = 5 ∨ op = 6 ∨ op = 7 ∨ op = 8 ∨ op = 9 ∨ op = 10 := by omega
     rcases this with rfl | rfl | rfl | rfl | rfl | rfl | rfl | rfl | rfl | rfl
     ·match v, e3 with | [a, b], _ => rfl
     ·match v, e3 with | [a, b], _ => rfl
     ·match v, e3 with | [a, b], _ => rfl
     ·match v, e3 with | [a, b], _ => rfl
     ·match v, e3 with | [a, b, c], _ => rfl
     ·match v, e3 with | [a, b, c, d], _ => rfl
     ·match v, e3 with | [a], _ => rfl
     ·match v, e3 with | [a, b], _ => rfl
     ·match v, e3 with | [a, b, c, d], _ => rfl
     ·match v, e3 with | [a, b], _ => rfl
   ·rw [if_neg e3] at h; cases h
def baseT (p : PS) : List UInt8 := lineP enumW p.1 ++ (p.2.1.map rtT).flatten
def partT (p : PS) : List UInt8 :=
 lineP ([114, 111, 117, 116, 105, 110, 101, 32] ++ p.2.2.1.1) [] ++ (if 3 ≤ p.2.2.2 then lineP inB p.2.2.1.2.1 else []) ++ (if 4 ≤ p.2.2.2 then lineP outW p.2.2.1.2.2.1 else []) ++ (if 5 ≤ p.2.2.2 then lineP regsW [p.2.2.1.2.2.2.1] else []) ++ (if 6 ≤ p.2.2.2 then lineP initW p.2.2.1.2.2.2.2.1 ++ (p.2.2.1.2.2.2.2.2.map insT).flatten else [])
def preT (p : PS) : List UInt8 := if p.2.2.2 = 0 then [] else if p.2.2.2 = 1 then baseT p else baseT p ++ partT p
def GoodP (p : PS) : Prop := p.2.2.2 ≤ 6 ∧ (p.2.2.2 = 0 → p.2.1 = []) ∧ (2 ≤ p.2.2.2 → p.2.2.2 < 6 → p.2.2.1.2.2.2.2.2 = [])
theorem goodP_of {q : PS} (w : Nat) (hw : q.2.2.2 = w) (h6 : w ≤ 6) (h0 : w ≠ 0) (hc : 2 ≤ w → w < 6 → q.2.2.1.2.2.2.2.2 = []) : GoodP q := by
 subst hw
 exact ⟨h6, fun h => absurd h h0, hc⟩
theorem glue_words {l : List UInt8} {w : List UInt8} {v : List Int} (h : pieces 32 l = w :: v.map itoa) : l ++ [10] = lineP w v := by
 have := glue_pieces 32 l
 rw [h, body_glue] at this
 rw [← this]; rfl
theorem words_split {W : List (List UInt8)} (h : W ≠ []) : W = W.headD [] :: W.tail := by
 cases W with
 | nil => exact absurd rfl h
 | cons a b => rfl
theorem step_text {p q : PS} {l : List UInt8} (hp : GoodP p) (h : stepL p (pieces 32 l) = some q) : GoodP q ∧ preT q = preT p ++ (l ++ [10]) := by
 have hne := pieces_ne 32 l
 have hW : ∀ v : List Int, (pieces 32 l).tail = v.map itoa → l ++ [10] = lineP ((pieces 32 l).headD []) v := fun v hv => glue_words (by conv => lhs; rw [words_split hne]; rw [hv])
 have hW2 := glue_pieces 32 l
 generalize pieces 32 l = W at h hne hW hW2
 obtain ⟨es, done, cur, w⟩ := p
 obtain ⟨g1, g2, g3⟩ := hp
 dsimp only at g1 g2 g3
 unfold stepL at h
 dsimp only at h
 split at h
 ·cases h
 ·split at h
  ·rename_i hw6
   subst hw6
   split at h
   ·rename_i hend
    split at h
    ·rename_i hlen
     injection h with h
     subst h
     have ht : W.tail = ([] : List Int).map itoa := List.eq_nil_of_length_eq_zero (by rw [List.length_tail]; omega)
     refine ⟨goodP_of 1 rfl (by decide) (by decide) (fun h => absurd h (by decide)), ?_⟩
     rw [hW [] ht, hend]
     simp [preT, endP, baseT, partT, rtT, enumW, inB, outW, regsW, initW, endW]
    ·cases h
   ·cases e : insV W with
    | none => rw [e] at h; cases h
    | some i =>
     rw [e] at h
     injection h with h
     subst h
     obtain ⟨v, v1, v2, v3⟩ := ins_text e
     refine ⟨goodP_of 6 rfl (by decide) (by decide) (fun _ h => absurd h (by decide)), ?_⟩
     rw [hW v v1, ← v2, ← v3]
     simp [preT, addI, baseT, partT, insT]
  ·rename_i hw6
   split at h
   ·cases h
   ·rename_i hhd
    have hhd' : W.headD [] = headW w := Classical.byContradiction hhd
    split at h
    ·rename_i hw1
     subst hw1
     split at h
     ·rename_i hlen
      injection h with h
      subst h
      refine ⟨goodP_of 2 rfl (by decide) (by decide) (fun _ _ => rfl), ?_⟩
      have hl2 : l ++ [10] = lineP ([114, 111, 117, 116, 105, 110, 101, 32] ++ W.tail.headD []) [] := by
       match W, hlen with
       | [a, b], _ =>
        have ha : a = routW := hhd'
        rw [← hW2, ha]; simp [glue, lineP, routW]
      rw [hl2]
      simp [preT, newP, baseT, partT]
     ·cases h
    ·rename_i hw1
     cases e : numsO W.tail with
     | none => rw [e] at h; cases h
     | some v =>
      rw [e] at h
      dsimp only at h
      split at h
      ·cases h
      ·rename_i h4
       injection h with h
       subst h
       rw [hW v (nums_some e).1, hhd']
       have hw : w = 0 ∨ w = 2 ∨ w = 3 ∨ w = 4 ∨ w = 5 := by omega
       rcases hw with rfl | rfl | rfl | rfl | rfl
       ·have := g2 rfl
        subst this
        exact ⟨goodP_of 1 rfl (by decide) (by decide) (fun h => absurd h (by decide)), by simp [preT, putW, baseT, headW]⟩
       ·have hc := g3 (by decide) (by decide)
        exact ⟨goodP_of 3 rfl (by decide) (by decide) (fun _ _ => by simpa [putW] using hc), by simp [preT, putW, baseT, headW, partT]⟩
       ·have hc := g3 (by decide) (by decide)
        exact ⟨goodP_of 4 rfl (by decide) (by decide) (fun _ _ => by simpa [putW] using hc), by simp [preT, putW, baseT, headW, partT]⟩
       ·have hc := g3 (by decide) (by decide)
        have hv1 : v.length = 1 := Classical.byContradiction fun h => h4 ⟨rfl, h⟩
        match v, hv1 with
        | [a], _ => exact ⟨goodP_of 5 rfl (by decide) (by decide) (fun _ _ => by simpa [putW] using hc), by simp [preT, putW, baseT, headW, partT]⟩
       ·have hc := g3 (by decide) (by decide)
        exact ⟨goodP_of 6 rfl (by decide) (by decide) (fun _ h => absurd h (by decide)), by simp [preT, putW, baseT, headW, partT, hc]⟩
theorem read_text : ∀ (ls : List (List UInt8)) (p : PS) (n : Nat) (im : Im), GoodP p → readL p ls n = .ok im → textP im = preT p ++ glue 10 ls
 | [], p, n, im, _, h => by cases h
 | [l], p, n, im, hp, h => by
  rw [readL_one] at h
  split at h
  ·rename_i h1
   injection h with h
   subst h
   rw [h1.1]
   unfold preT
   rw [h1.2, if_neg (by decide), if_pos rfl]
   simp [baseT, textP, glue, enumW]
  ·cases h
 | l :: m :: r, p, n, im, hp, h => by
  rw [readL_cons] at h
  cases e : stepL p (pieces 32 l) with
  | none => rw [e] at h; cases h
  | some q =>
   rw [e] at h
   obtain ⟨h1, h2⟩ := step_text hp e
   rw [read_text (m :: r) q (n + 1) im h1 h, h2, glue_cons]
   simp
theorem parse_back {s : List UInt8} {im : Im} (h : parseR s = .ok im) : textP im = s := by
 have := read_text (pieces 10 s) startP 0 im ⟨by decide, fun _ => rfl, fun h => absurd h (by decide)⟩ h
 rw [this, glue_pieces]; rfl
end Go.Z.Asm
/- Chapter 26: images in memory of one's own; the table of words; one instruction read. Conditions: what the library's variables hold (LibA). -/
namespace Go.Z.Asm
set_option maxRecDepth 8000
set_option linter.unusedVariables false
set_option linter.unusedSimpArgs false
set_option linter.unusedSectionVars false
open Go Go.Z Go.Lib Go.Z.Txt

abbrev Hd := (Option Addr × Nat) × (Option Addr × Nat) × (Option Addr × Nat) × (Option Addr × Nat)
def rowO (q : Hd × Rt) : List Value := [.string (strB q.2.1), .slice q.1.1.1 q.2.2.1.length q.1.1.2, .slice q.1.2.1.1 q.2.2.2.1.length q.1.2.1.2, .int .i64 q.2.2.2.2.1, .slice q.1.2.2.1.1 q.2.2.2.2.2.1.length q.1.2.2.1.2, .slice q.1.2.2.2.1 q.2.2.2.2.2.2.length q.1.2.2.2.2]
theorem rowO_len (q : Hd × Rt) : (rowO q).length = 6 := rfl
def ownR (TI TC : TypeId) (q : Hd × Rt) : List Assn := [OwnSl TI 1 q.1.1.1 q.2.2.1.length q.1.1.2 (q.2.2.1.map encI), OwnSl TI 1 q.1.2.1.1 q.2.2.2.1.length q.1.2.1.2 (q.2.2.2.1.map encI), OwnSl TI 1 q.1.2.2.1.1 q.2.2.2.2.2.1.length q.1.2.2.1.2 (q.2.2.2.2.2.1.map encI), OwnSl TC 5 q.1.2.2.2.1 q.2.2.2.2.2.2.length q.1.2.2.2.2 (q.2.2.2.2.2.2.flatMap encIns)]
def fragP (TI TC : TypeId) (q : Hd × Rt) : Assn := Al (ownR TI TC q)
def OwnImK (TI TC TR : TypeId) (ea ra : Option Addr) (ec rc : Nat) (im : Im) : List Assn → Prop := fun H => ∃ Q : List (Hd × Rt), Q.map (·.2) = im.2 ∧ H = [OwnSl TI 1 ea im.1.length ec (im.1.map encI), OwnSl TR 6 ra im.2.length rc (Q.flatMap rowO), Al (Q.map (fragP TI TC))]
def OwnIm (TI TC TR : TypeId) (ea ra : Option Addr) (ec rc : Nat) (im : Im) : Assn := Pk (OwnImK TI TC TR ea ra ec rc im)
theorem ro_al {ρ : Nat → Obj → Prop} {l : List Assn} (h : Ro ρ (Al l)) : Ros ρ l := by
 obtain ⟨hh, s, r⟩ := h
 exact ros_of_sat s r
theorem own_rt {ρ : Nat → Obj → Prop} {TI TC : TypeId} {q : Hd × Rt} (h : Ro ρ (fragP TI TC q)) : RtR ρ (rowO q) q.2 := by
 obtain ⟨h1, h2, h3, h4, _⟩ := ro_al h
 exact ⟨_, _, _, _, _, _, _, _, rfl, RSl.of_own h1, RSl.of_own h2, RSl.of_own h3, RSl.of_own h4⟩
theorem own_rts {ρ : Nat → Obj → Prop} {TI TC TR : TypeId} {ra : Option Addr} {rc : Nat} {Q : List (Hd × Rt)} (h1 : Ro ρ (OwnSl TR 6 ra Q.length rc (Q.flatMap rowO))) (h2 : Ro ρ (Al (Q.map (fragP TI TC)))) : RtsR ρ ra (Q.map (·.2)) := fun h0 => by
 have hl : 0 < Q.length := by rwa [List.length_map] at h0
 obtain ⟨_, b, off, cs, T, fz, hr⟩ := RSl.of_own h1
 obtain ⟨r1, r2, r3⟩ := hr hl
 refine ⟨b, off, cs, T, fz, r1, r2, fun k hk => ?_⟩
 have hk' : k < Q.length := by rwa [List.length_map] at hk
 refine ⟨rowO Q[k], ?_, ?_, ?_⟩
 ·rw [List.getElem_map]
  have := ros_at (ro_al h2) k (by rwa [List.length_map])
  rw [List.getElem_map] at this
  exact own_rt this
 ·obtain ⟨e1, e2⟩ := rows_at rowO 6 rowO_len Q k hk'
  rw [sub_of r3 (by decide) e2, e1]
 ·intro j v hv
  obtain ⟨e1, e2⟩ := rows_at rowO 6 rowO_len Q k hk'
  rw [Nat.add_assoc]
  refine r3 (k * 6 + j) v ?_
  rw [← e1, List.getElem?_take] at hv
  split at hv
  ·rwa [List.getElem?_drop] at hv
  ·cases hv
theorem own_im {ρ : Nat → Obj → Prop} {TI TC TR : TypeId} {ea ra : Option Addr} {ec rc : Nat} {im : Im} (h : Ro ρ (OwnIm TI TC TR ea ra ec rc im)) (hel : im.1.length ≤ 17592186044416) (hrl : im.2.length ≤ 17592186044416) (hei : ∀ v ∈ im.1, I64 v) (hok : ∀ x ∈ im.2, RtOk x) : ImI ρ ea ra im := by
 obtain ⟨H1, ⟨Q, e1, rfl⟩, h1, h2, h3, _⟩ := Ro.unpack h
 rw [← e1, List.length_map] at h2
 refine ⟨RSl.of_own h1, ?_, hel, hrl, hei, hok⟩
 rw [← e1]
 exact own_rts h2 h3

theorem ops_rowW : ∀ k, k < 11 → ∃ a b c d e, sub opsC (0 + k * 6) 6 = some [.string (strB (wordR k)), .int .i64 a, .int .i64 b, .int .i64 c, .int .i64 d, .int .i64 e]
 | 0, _ => ⟨_, _, _, _, _, rfl⟩
 | 1, _ => ⟨_, _, _, _, _, rfl⟩
 | 2, _ => ⟨_, _, _, _, _, rfl⟩
 | 3, _ => ⟨_, _, _, _, _, rfl⟩
 | 4, _ => ⟨_, _, _, _, _, rfl⟩
 | 5, _ => ⟨_, _, _, _, _, rfl⟩
 | 6, _ => ⟨_, _, _, _, _, rfl⟩
 | 7, _ => ⟨_, _, _, _, _, rfl⟩
 | 8, _ => ⟨_, _, _, _, _, rfl⟩
 | 9, _ => ⟨_, _, _, _, _, rfl⟩
 | 10, _ => ⟨_, _, _, _, _, rfl⟩
 | k + 11, h => by omega
def kindsR (k : Nat) : List Nat := (opT.getD k ([], [], 0)).2.1
theorem ops_kinds : ∀ k, k < 11 → sub opsC (0 + k * 6 + 1) 4 = some ((kindsR k).map fun x : Nat => Value.int .i64 x)
 | 0, _ => rfl
 | 1, _ => rfl
 | 2, _ => rfl
 | 3, _ => rfl
 | 4, _ => rfl
 | 5, _ => rfl
 | 6, _ => rfl
 | 7, _ => rfl
 | 8, _ => rfl
 | 9, _ => rfl
 | 10, _ => rfl
 | k + 11, h => by omega
theorem kindsR_len : ∀ k, k < 11 → (kindsR k).length = 4 := by decide
/-- the places of the fields that an operation has, up to one -/
def plc (op k : Nat) : List Nat := (List.range k).filter fun j => decide ((kindsR op).getD j 0 ≠ 0)
theorem plc_all : ∀ op, op < 11 → 1 ≤ op → plc op 4 = placesOf op := by decide
theorem plc_step (op k : Nat) : plc op (k + 1) = if (kindsR op).getD k 0 ≠ 0 then plc op k ++ [k] else plc op k := by
 unfold plc
 rw [List.range_succ, List.filter_append]
 by_cases h : (kindsR op).getD k 0 ≠ 0
 ·rw [if_pos h]
  rw [List.filter_cons_of_pos (by rw [decide_eq_true_eq]; exact h), List.filter_nil]
 ·rw [if_neg h]
  rw [List.filter_cons_of_neg (by rw [decide_eq_true_eq]; exact h), List.filter_nil, List.append_nil]
theorem plc_len (op k : Nat) : (plc op k).length ≤ k := by
 unfold plc
 exact Nat.le_trans (List.length_filter_le ..) (by rw [List.length_range]; exact Nat.le_refl k)
theorem places_lt (op : Nat) : op < 11 → ∀ x ∈ placesOf op, x < 4 := by
 intro h
 have : op = 0 ∨ op = 1 ∨ op = 2 ∨ op = 3 ∨ op = 4 ∨ op = 5 ∨ op = 6 ∨ op = 7 ∨ op = 8 ∨ op = 9 ∨ op = 10 := by omega
 rcases this with rfl | rfl | rfl | rfl | rfl | rfl | rfl | rfl | rfl | rfl | rfl <;> decide
theorem fillC_len (ps : List Nat) (v : List Int) : (fillC ps v).length = 4 := by
 unfold fillC
 suffices h : ∀ (l : List (Nat × Int)) (f : List Int), f.length = 4 → (l.foldl (fun f q => f.set q.1 q.2) f).length = 4 from h _ _ rfl
 intro l
 induction l with
 | nil => intro f h; exact h
 | cons a l ih => intro f h; exact ih _ (by rw [List.length_set]; exact h)
theorem fillC_step {ps : List Nat} {v : List Int} {k : Nat} (h1 : k < ps.length) (h2 : k < v.length) : fillC (ps.take (k + 1)) (v.take (k + 1)) = (fillC (ps.take k) (v.take k)).set ps[k] v[k] := by
 unfold fillC
 rw [List.take_add_one, List.take_add_one, List.getElem?_eq_getElem h1, List.getElem?_eq_getElem h2, Option.toList_some, Option.toList_some, List.zip_append (by rw [List.length_take, List.length_take]; omega), List.foldl_append]; rfl
theorem opF_hit {w : List UInt8} {k : Nat} (hk : k < 11) (h : wordR k = w ∧ w ≠ []) (hn : ∀ j, j < k → ¬ (wordR j = w ∧ w ≠ [])) : opF w = some k := by
 unfold opF
 rw [List.find?_range_eq_some]
 exact ⟨decide_eq_true h, List.mem_range.2 hk, fun j hj => by rw [decide_eq_false (hn j hj)]; rfl⟩
theorem opF_miss {w : List UInt8} (hn : ∀ j, j < 11 → ¬ (wordR j = w ∧ w ≠ [])) : opF w = none := by
 unfold opF
 rw [List.find?_range_eq_none]
 exact fun j hj => by rw [decide_eq_false (hn j hj)]; rfl
def opZ (o : Option Nat) : Int := match o with | some k => k | none => -1
end Go.Z.Asm
namespace Go.Proofs.YtcnfcoojmbjdlaaGreatDoor
set_option maxRecDepth 8000
set_option linter.unusedVariables false
set_option linter.unusedSimpArgs false
set_option linter.unusedSectionVars false
open Go Go.Z Go.Z.Asm Go.RowKit Go.Z.Txt

theorem ins1G_ok {ρ : Nat → Obj → Prop} {b4 wb n1 c1 : Nat} {T T2 : TypeId} {fz fz2 : Nat × Nat} {w0 : List UInt8} {W : List (List UInt8)} (h4 : ρ b4 (.cells [.slice (some ⟨wb, 0, none⟩) (w0 :: W).length c1].toArray T fz)) (hw : ρ wb (.cells ((w0 :: W).map strV).toArray T2 fz2)) (wd : List UInt8) (a b c d e : Int) :
  Con Tryz.prog ρ 107 #[.agg #[.string (strB wd), .int .i64 a, .int .i64 b, .int .i64 c, .int .i64 d, .int .i64 e], .pointer (some ⟨b4, 0, none⟩)] [] (fun v H => v = .bool (decide (wd = w0 ∧ w0 ≠ [])) ∧ H = []) := by
 have hlen : (w0 :: W).length = W.length + 1 := rfl
 refine con_intro Tryz.func107 Tryz.call107 rfl Tryz.ntmps107 rfl (L := [(0, _), (1, _)]) rfl fun w hh => ?_
 refine g_seq <| g_region ?_
 refine g_eff (e_box rfl (by rfl)) rfl (fun _ _ => ?_)
 rintro ⟨b2, rfl, rfl⟩
 refine g_as ?_
 refine g_nil <| g_qt <| g_seq ?_
 refine m_begin0 (.fl 0 0 (.fl 1 1 (.fl 2 1 (.fl 3 0 (.fl 4 1 (.fl 5 0 (.fl 6 0 (.fl 7 1 (.fl 8 0 (.fl 9 1 (.fl 10 0 (.fl 11 0 (.fl 12 0 .done))))))))))))) (by kernel_rfl) (by kernel_rfl) ?_
 refine m_float0 rfl (fun _ _ => p_fieldAddr rfl) rfl ?_
 refine m_float rfl (p_loadA) rfl ?_
 refine m_float rfl (p_load (by rfl) rfl (Has.ro h4) (by rfl)) rfl ?_
 refine m_float0 rfl (fun _ _ => p_indexAddr rfl rfl (by omega) (fun _ => rfl)) rfl ?_
 refine m_float rfl (p_load (v := .string (strB w0)) (by rfl) rfl (Has.ro hw) (by rfl)) rfl ?_
 refine m_float0 rfl (fun _ _ => p_eqls (i := strB wd) (j := strB w0) (by rfl) rfl rfl) rfl ?_
 refine m_float0 rfl (fun _ _ => p_move rfl) rfl ?_
 refine m_splitd 6 rfl rfl (fun h1 => ?_) (fun h1 => ?_)
 ·refine m_yes rfl rfl rfl (p_load (by rfl) rfl (Has.ro h4) (by rfl)) rfl ?_
  refine m_yes0 rfl rfl rfl (fun _ _ => p_indexAddr rfl rfl (by omega) (fun _ => rfl)) rfl ?_
  refine m_yes rfl rfl rfl (p_load (v := .string (strB w0)) (by rfl) rfl (Has.ro hw) (by rfl)) rfl ?_
  refine m_yes0 rfl rfl rfl (fun _ _ => p_neqs (i := strB w0) (j := ⟨#[]⟩) (by rfl) rfl rfl) rfl ?_
  first | refine m_float0 rfl (fun _ _ => p_pickt rfl rfl) rfl ?_ | refine m_float0 rfl (fun _ _ => p_pickf rfl rfl) rfl ?_
  refine m_float0 rfl (fun _ _ => p_assign rfl) rfl ?_
  refine m_nil ?_
  refine g_qt <| g_ret ?_
  first | exact g_postA (rs := [.tmp 3]) rfl (.tmp rfl .nil) ⟨show Value.bool false = _ by (rw [decide_eq_false (p := wd = w0 ∧ w0 ≠ []) (fun h => by have := strB_inj.2 h.1; contradiction)]), rfl⟩ | exact g_postA (rs := [.tmp 3]) rfl (.tmp rfl .nil) ⟨show Value.bool (!decide (strB w0 = ⟨#[]⟩)) = _ by (rw [← decide_not]; congr 1; refine decide_eq_decide.2 ⟨fun h => ⟨strB_inj.1 (by assumption), fun e => h (by rw [e]; rfl)⟩, fun h e => h.2 ((strB_inj (b := [])).1 e)⟩), rfl⟩
 ·refine m_no rfl rfl rfl rfl rfl ?_
  refine m_no0 rfl rfl rfl rfl rfl ?_
  refine m_no rfl rfl rfl rfl rfl ?_
  refine m_no0 rfl rfl rfl rfl rfl ?_
  first | refine m_float0 rfl (fun _ _ => p_pickt rfl rfl) rfl ?_ | refine m_float0 rfl (fun _ _ => p_pickf rfl rfl) rfl ?_
  refine m_float0 rfl (fun _ _ => p_assign rfl) rfl ?_
  refine m_nil ?_
  refine g_qt <| g_ret ?_
  first | exact g_postA (rs := [.tmp 3]) rfl (.tmp rfl .nil) ⟨show Value.bool false = _ by (rw [decide_eq_false (p := wd = w0 ∧ w0 ≠ []) (fun h => by have := strB_inj.2 h.1; contradiction)]), rfl⟩ | exact g_postA (rs := [.tmp 3]) rfl (.tmp rfl .nil) ⟨show Value.bool (!decide (strB w0 = ⟨#[]⟩)) = _ by (rw [← decide_not]; congr 1; refine decide_eq_decide.2 ⟨fun h => ⟨strB_inj.1 (by assumption), fun e => h (by rw [e]; rfl)⟩, fun h e => h.2 ((strB_inj (b := [])).1 e)⟩), rfl⟩
theorem idxG_ok {ρ : Nat → Obj → Prop} (hO : OpsK ρ) {b4 wb c1 : Nat} {T T2 : TypeId} {fz fz2 : Nat × Nat} {w0 : List UInt8} {W : List (List UInt8)} (h4 : ρ b4 (.cells [.slice (some ⟨wb, 0, none⟩) (w0 :: W).length c1].toArray T fz)) (hw : ρ wb (.cells ((w0 :: W).map strV).toArray T2 fz2)) :
  Con Tryz.prog ρ 106 #[.slice (some ⟨0, 0, none⟩) 11 11, .func (.func 107) #[] #[.pointer (some ⟨b4, 0, none⟩)]] [] (fun v H => v = .int .i64 (opZ (opF w0)) ∧ H = []) := by
 obtain ⟨OT, oz, hg⟩ := hO
 refine con_intro Tryz.func106 Tryz.call106 rfl Tryz.ntmps106 rfl (L := [(0, _), (1, _)]) rfl fun w hh => ?_
 refine g_seq <| g_region ?_
 refine g_as ?_
 refine g_nil <| g_qt <| g_seq <| g_seq <| g_region ?_
 refine g_mv ?_
 refine g_pure (p_len (by rfl) rfl) rfl ?_
 refine g_mv ?_
 refine g_nil <| g_qt <| g_block ?_
 refine g_loop (fun k : Nat => [(0, .slice (some ⟨0, 0, none⟩) 11 11), (1, .func (.func 107) #[] #[.pointer (some ⟨b4, 0, none⟩)]), (7, .int .i64 11), (8, .int .i64 k)]) (fun _ => []) (fun k => k ≤ 11 ∧ ∀ j, j < k → ¬ (wordR j = w0 ∧ w0 ≠ [])) (fun k => 11 - k) 0 ⟨Nat.zero_le _, fun j h => absurd h (Nat.not_lt_zero j)⟩ (by (repeat (first | exact trivial | refine ⟨by rfl, ?_⟩)); done) .nil ?_
 rintro k ⟨hk1, hk2⟩
 refine g_seq <| g_region ?_
 refine g_pure (p_lss rfl rfl) rfl ?_
 refine g_nil <| g_qt <| g_seq ?_
 refine g_ifd rfl (fun q => ?_) (fun q => ?_)
 ·have hk11 : k < 11 := by omega
  obtain ⟨oa, ob, oc, od, oe, hrow⟩ := ops_rowW k hk11
  refine g_skip <| g_qt <| g_seq <| g_block <| g_seq <| g_region ?_
  refine g_mv ?_
  refine g_as ?_
  refine g_nil <| g_qt <| g_seq <| g_region ?_
  refine g_mv ?_
  refine g_mv ?_
  refine g_mv ?_
  refine g_pure (p_indexAddr rfl rfl (by omega) (fun _ => rfl)) rfl ?_
  refine g_pure (p_loadN (by rfl) rfl (Has.ro hg) (by rw [Int.toNat_natCast]; exact hrow)) rfl ?_
  refine g_call (Hin := []) (Hr := ?hr1) (R := ?rr1) rfl rfl rfl ?hin1 ?hc1 ?hk1
  case hin1 => repeat' (first | exact Cover.nil | exact Take.here | apply Cover.cons | apply Take.there)
  case hc1 => intro ρ' hρ hR; exact ins1G_ok (n1 := 0) (hρ _ _ h4) (hρ _ _ hw) (wordR k) oa ob oc od oe
  rintro _ _ ⟨rfl, rfl⟩
  refine g_nil <| g_qt ?_
  refine g_ifd rfl (fun h => ?_) (fun h => ?_)
  ·refine g_seq <| g_region ?_
   refine g_mv ?_
   refine g_as ?_
   refine g_nil <| g_qt <| g_ret <| g_qb_ret <| g_qt_ret <| g_qn_ret <| g_qb_ret <| g_qt_ret ?_
   exact g_post (rs := [.tmp 4]) rfl (.tmp rfl .nil) ⟨by rw [opF_hit hk11 h hk2]; rfl, rfl⟩ .nil
  ·refine g_skip <| g_qb <| g_qt <| g_region ?_
   first | refine g_pure (p_addi rfl rfl (by omega)) rfl ?_ | refine g_pure (p_add rfl rfl) rfl ?_
   refine g_mv ?_
   refine g_nil <| g_qn ?_
   exact g_next (k + 1) (by (repeat (first | exact trivial | refine ⟨by rfl, ?_⟩)); done) .nil ⟨by omega, fun j hj => by
    by_cases e : j = k
    ·rw [e]; exact h
    ·exact hk2 j (by omega)⟩ (by omega)
 ·refine g_exit <| g_qt_exit <| g_qn_exit <| g_qb_exit <| g_qt <| g_seq <| g_region ?_
  refine g_as ?_
  refine g_nil <| g_qt <| g_ret ?_
  exact g_post (rs := [.tmp 4]) rfl (.tmp rfl .nil) ⟨by rw [opF_miss (fun j hj => hk2 j (by omega))]; rfl, rfl⟩ .nil
end Go.Proofs.YtcnfcoojmbjdlaaGreatDoor
/- Chapter 26: one instruction read. Conditions: what the library's variables hold (LibA). -/
namespace Go.Z.Asm
set_option maxRecDepth 8000
set_option linter.unusedVariables false
set_option linter.unusedSimpArgs false
set_option linter.unusedSectionVars false
open Go Go.Z Go.Lib Go.Z.Txt
theorem insS_end {ls : List (List UInt8)} {s : RS} {w0 : List UInt8} {W : List (List UInt8)} {s1 : RS} (h : nextS ls s = (w0 :: W, s1)) (he : w0 = endW) : insS ls s = (numbersS W 0 s1, none) := by
 unfold insS
 rw [h]
 dsimp only
 rw [List.headD_cons, if_pos he]; rfl
theorem insS_no {ls : List (List UInt8)} {s : RS} {w0 : List UInt8} {W : List (List UInt8)} {s1 : RS} (h : nextS ls s = (w0 :: W, s1)) (he : w0 ≠ endW) (ho : opF w0 = none) : insS ls s = (failS 5 s1, none) := by
 unfold insS
 rw [h]
 dsimp only
 rw [List.headD_cons, if_neg he, ho]
theorem insS_op {ls : List (List UInt8)} {s : RS} {w0 : List UInt8} {W : List (List UInt8)} {s1 : RS} (h : nextS ls s = (w0 :: W, s1)) (he : w0 ≠ endW) {op : Nat} (ho : opF w0 = some op) :
  ((numbersS W (placesOf op).length s1).2 ≠ 0 → insS ls s = (numbersS W (placesOf op).length s1, none)) ∧ ((numbersS W (placesOf op).length s1).2 = 0 → insS ls s = (numbersS W (placesOf op).length s1, some (mkIns op (numsV W)))) := by
 unfold insS
 rw [h]
 dsimp only
 rw [List.headD_cons, if_neg he, ho]
 dsimp only
 rw [List.tail_cons]
 exact ⟨fun h => if_pos h, fun h => if_neg (fun h2 => h2 h)⟩
theorem tail_slice {wb : Nat} {w0 : List UInt8} {W : List (List UInt8)} : (w0 :: W).length - (1 : Int).toNat = W.length := by rw [List.length_cons]; rfl
end Go.Z.Asm
namespace Go.Proofs.YtcnfcoojmbjdlaaGreatDoor
set_option maxRecDepth 8000
set_option linter.unusedVariables false
set_option linter.unusedSimpArgs false
set_option linter.unusedSectionVars false
open Go Go.Z Go.Z.Asm Go.RowKit Go.Z.Txt

theorem insG_ok {ρ : Nat → Obj → Prop} (hk : LibA ρ) {lb : Nat} {ls : List (List UInt8)} (hL : Lns ρ lb ls) (p : Nat) (s : RS) (hs : s.1 < ls.length) :
  Con Tryz.prog ρ 77 #[.pointer (some ⟨p, 0, none⟩)] [Rd 73 p lb ls.length s] (fun v H => ∃ i : Ins, v = .tuple #[.agg (encIns i).toArray, .bool (insS ls s).2.isSome] ∧ (∀ j, (insS ls s).2 = some j → i = j) ∧ H = [Rd 73 p lb ls.length (insS ls s).1]) := by
 have hll := hL.len
 obtain ⟨hw1, hw2⟩ := nextS_words (s := s) hL.each
 have hat := nextS_at ls s
 have hne := nextS_ne ls s
 refine con_intro Tryz.func77 Tryz.call77 rfl Tryz.ntmps77 rfl (L := [(0, _)]) rfl fun w hh => ?_
 refine g_seq <| g_region ?_
 refine g_eff (e_alloc (by rfl)) rfl (fun _ _ => ?_)
 rintro ⟨b2, rfl, rfl⟩
 refine g_as ?_
 refine g_nil <| g_qt <| g_seq <| g_region ?_
 refine g_mv ?_
 refine g_call (Hin := [Rd 73 p lb ls.length s]) (Hr := ?hr1) (R := ?rr1) rfl rfl rfl ?hin1 ?hc1 ?hk1
 case hin1 => repeat' (first | exact Cover.nil | exact Take.here | apply Cover.cons | apply Take.there)
 case hc1 => intro ρ' hρ hR; exact next_ok (hk.mono hρ) (hL.mono hρ) p s hs
 rintro _ _ ⟨wb, rfl, rfl⟩
 generalize hN : nextS ls s = N at hw1 hw2 hat hne ⊢
 obtain ⟨W, s1⟩ := N
 dsimp only at hw1 hw2 hat hne ⊢
 match W, hne with
 | w0 :: W, _ =>
 have hlen : (w0 :: W).length = W.length + 1 := rfl
 have hlW : W.length ≤ 4294967296 := by omega
 have hwW : ∀ w ∈ W, w.length < 4294967281 := fun w hw => hw2 w (List.mem_cons_of_mem _ hw)
 have hend : strB w0 = ⟨#[101, 110, 100]⟩ ↔ w0 = endW := strB_inj (b := endW)
 refine g_eff (e_alloc (by rfl)) rfl (fun _ _ => ?_)
 rintro ⟨b4, rfl, rfl⟩
 first | refine g_eff0 (e_storeO rfl rfl (by rfl) (by rfl) (by rfl) (by repeat' (first | exact Take.here | apply Take.there)) (by rfl)) (fun _ _ => ?_) | refine g_eff0 (e_store1 (by rfl) rfl rfl rfl (by repeat' (first | exact Take.here | apply Take.there)) (by first | decide | (simp <;> omega) | omega)) (fun _ _ => ?_)
 rintro rfl
 refine g_nil <| g_qt <| g_seq <| g_seq <| g_region ?_
 refine g_ld ?_
 refine g_pure (p_indexAddr rfl rfl (by omega) (fun _ => rfl)) rfl ?_
 refine g_pure (p_load (v := .string (strB w0)) (by rfl) rfl (Has.own (by repeat' (first | exact Take.here | apply Take.there))) (by rfl)) rfl ?_
 refine g_pure (p_eqls (i := strB w0) (j := ⟨#[101, 110, 100]⟩) (by rfl) rfl rfl) rfl ?_
 refine g_nil <| g_qt ?_
 refine g_ifd rfl (fun h1 => ?_) (fun h1 => ?_)
 ·rw [insS_end hN (hend.1 h1)]
  refine g_seq <| g_region ?_
  refine g_mv ?_
  refine g_ld ?_
  refine g_pure (p_slicel rfl rfl (by omega)) rfl ?_
  refine g_call (Hin := [Rd 73 p lb ls.length s1]) (Hr := ?hr2) (R := ?rr2) rfl rfl rfl ?hin2 ?hc2 ?hk2
  case hin2 => repeat' (first | exact Cover.nil | exact Take.here | apply Cover.cons | apply Take.there)
  case hc2 => intro ρ' hρ hR; exact numbers_ok (hk.mono hρ) p lb ls.length s1 (by omega) _ _ W (tail_rsl (w0 := w0) (Take.ro (A := Blk wb (.cells ((w0 :: W).map strV).toArray 9 (0, 0))) (by repeat' (first | exact Take.here | apply Take.there)) hR).blk (fun h => tail_addr (w0 := w0) h)) hlW hwW 0
  rintro _ _ ⟨oa, oc, out, rfl, ho1, ho2, rfl⟩
  refine g_nil <| g_qt <| g_seq <| g_region ?_
  refine g_pure (p_build (by rfl) rfl (by rfl)) rfl ?_
  first | refine g_eff0 (e_storeO rfl rfl (by rfl) (by rfl) (by rfl) (by repeat' (first | exact Take.here | apply Take.there)) (by rfl)) (fun _ _ => ?_) | refine g_eff0 (e_storeN rfl rfl (by rfl) (by rfl) (by rfl) (by repeat' (first | exact Take.here | apply Take.there)) (by simp)) (fun _ _ => ?_)
  rintro rfl
  refine g_as ?_
  refine g_nil <| g_qt <| g_ret <| g_qt_ret ?_
  exact g_postA (Ho := [Rd 73 p lb ls.length (numbersS W 0 s1)]) (rs := [.cell 2 32, .tmp 3]) rfl (Res.cellN (by rfl) rfl (Has.own (by repeat' (first | exact Take.here | apply Take.there))) (by rfl) (.tmp rfl .nil)) ⟨(0, 0, 0, 0, 0), rfl, fun j h => by (cases h), rfl⟩
 ·have hne' : w0 ≠ endW := fun e => h1 (hend.2 e)
  refine g_skip <| g_qt <| g_seq <| g_region ?_
  refine g_pure (p_sliceArr0 (he := ty62) (by rfl) rfl) rfl ?_
  refine g_pure (p_makeFunc rfl rfl) rfl ?_
  refine g_call (Hin := []) (Hr := ?hr3) (R := ?rr3) rfl rfl rfl ?hin3 ?hc3 ?hk3
  case hin3 => repeat' (first | exact Cover.nil | exact Take.here | apply Cover.cons | apply Take.there)
  case hc3 => intro ρ' hρ hR; exact idxG_ok (hk.mono hρ).ops (Take.ro (A := Blk b4 (.cells [.slice (some ⟨wb, 0, none⟩) (w0 :: W).length (w0 :: W).length].toArray 70 (0, 0))) (by repeat' (first | exact Take.here | apply Take.there)) hR).blk (Take.ro (A := Blk wb (.cells ((w0 :: W).map strV).toArray 9 (0, 0))) (by repeat' (first | exact Take.here | apply Take.there)) hR).blk
  rintro _ _ ⟨rfl, rfl⟩
  refine g_as ?_
  refine g_nil <| g_qt <| g_seq <| g_seq <| g_region ?_
  refine g_mv ?_
  refine g_pure (p_lss rfl rfl) rfl ?_
  refine g_nil <| g_qt ?_
  rcases hop : opF w0 with _ | op
  ·rw [insS_no hN hne' hop]
   rw [show opZ none = -1 from rfl]
   refine g_ift rfl ?_
   refine g_seq <| g_region ?_
   refine g_mv ?_
   refine g_call (Hin := [Rd 73 p lb ls.length s1]) (Hr := ?hr4) (R := ?rr4) rfl rfl rfl ?hin4 ?hc4 ?hk4
   case hin4 => repeat' (first | exact Cover.nil | exact Take.here | apply Cover.cons | apply Take.there)
   case hc4 => intro ρ' hρ hR; exact fail_ok p lb ls.length s1 5
   rintro _ _ ⟨rfl, rfl⟩
   refine g_nil <| g_qt <| g_seq <| g_region ?_
   refine g_pure (p_build (by rfl) rfl (by rfl)) rfl ?_
   first | refine g_eff0 (e_storeO rfl rfl (by rfl) (by rfl) (by rfl) (by repeat' (first | exact Take.here | apply Take.there)) (by rfl)) (fun _ _ => ?_) | refine g_eff0 (e_storeN rfl rfl (by rfl) (by rfl) (by rfl) (by repeat' (first | exact Take.here | apply Take.there)) (by simp)) (fun _ _ => ?_)
   rintro rfl
   refine g_as ?_
   refine g_nil <| g_qt <| g_ret <| g_qt_ret ?_
   exact g_postA (rs := [.cell 2 32, .tmp 3]) rfl (Res.cellN (by rfl) rfl (Has.own (by repeat' (first | exact Take.here | apply Take.there))) (by rfl) (.tmp rfl .nil)) ⟨(0, 0, 0, 0, 0), rfl, fun j h => by (cases h), rfl⟩
  ·obtain ⟨n1, n2, n3⟩ := opF_some hop
   obtain ⟨i1, i2⟩ := insS_op hN hne' hop
   have h11 : op < 11 := by omega
   have hkin := ops_kinds op h11
   have hkl := kindsR_len op h11
   have hall := plc_all op h11 n1
   have hpl4 : (placesOf op).length ≤ 4 := by rw [← hall]; exact plc_len op 4
   rw [show opZ (some op) = (op : Int) from rfl]
   obtain ⟨OT, oz, hg⟩ := (hk.mono (fun b o h => h)).ops
   refine g_ifd rfl (fun h2 => ?_) (fun h2 => ?_)
   ·exfalso; omega
   ·refine g_skip <| g_qt <| g_seq <| g_region ?_
    refine g_as ?_
    refine g_nil <| g_qt <| g_seq <| g_seq <| g_region ?_
    refine g_mv ?_
    refine g_pure (p_indexAddrA (he := ty62) (by rfl) rfl rfl (by omega)) rfl ?_
    refine g_fa ?_
    refine g_pure (p_loadN (by rfl) rfl (Has.ro hg) (by rw [Int.toNat_natCast]; exact hkin)) rfl ?_
    refine g_mv ?_
    refine g_nil <| g_qt <| g_block ?_
    refine g_ownnil (e := 3) (size := 1) ?_
    refine g_loop (fun q : Nat × Option Addr × Nat => [(0, .pointer (some ⟨p, 0, none⟩)), (2, .pointer (some ⟨b2, 0, none⟩)), (4, .pointer (some ⟨b4, 0, none⟩)), (5, .int .i64 op), (6, .slice q.2.1 (plc op q.1).length q.2.2), (35, .agg ((kindsR op).map fun x : Nat => Value.int .i64 x).toArray), (36, .int .i64 q.1)])
     (fun q => [OwnSl 3 1 q.2.1 (plc op q.1).length q.2.2 ((plc op q.1).map fun x : Nat => Value.int .i64 x), Blk b4 (.cells [.slice (some ⟨wb, 0, none⟩) (w0 :: W).length (w0 :: W).length].toArray 70 (0, 0)), Blk wb (.cells ((w0 :: W).map strV).toArray 9 (0, 0)), Rd 73 p lb ls.length s1, Blk b2 (.cells [.int .i64 0, .int .i64 0, .int .i64 0, .int .i64 0, .int .i64 0].toArray 32 (0, 0))])
     (fun q => q.1 ≤ 4) (fun q => 4 - q.1) (0, none, 0) (Nat.zero_le _) (by (repeat (first | exact trivial | refine ⟨by rfl, ?_⟩)); done) (by repeat' (first | exact Cover.nil | exact Take.here | apply Cover.cons | apply Take.there)) ?_
    rintro ⟨k, oa, oc⟩ hk1
    dsimp only at hk1 ⊢
    have hpk := plc_len op k
    refine g_seq <| g_region ?_
    refine g_pure (p_lss rfl rfl) rfl ?_
    refine g_nil <| g_qt <| g_seq ?_
    refine g_ifd rfl (fun q => ?_) (fun q => ?_)
    ·have hk4 : k < (kindsR op).length := by omega
     have hx : ((kindsR op).map fun x : Nat => Value.int .i64 x)[(k : Int).toNat]? = some (.int .i64 ((kindsR op).getD k 0 : Nat)) := by
      rw [Int.toNat_natCast, List.getElem?_map, List.getElem?_eq_getElem hk4, List.getD_eq_getElem?_getD, List.getElem?_eq_getElem hk4]; rfl
     have hst := plc_step op k
     generalize (kindsR op).getD k 0 = kd at hx hst
     refine g_skip <| g_qt <| g_seq <| g_block <| g_seq <| g_region ?_
     refine g_mv ?_
     refine g_pure (p_indexA (he := ty3) (by rfl) (by rfl) rfl rfl rfl (by omega) hx) rfl ?_
     refine g_as ?_
     refine g_as ?_
     refine g_nil <| g_qt <| g_seq <| g_region ?_
     refine g_mv ?_
     refine g_pure (p_neq rfl rfl) rfl ?_
     refine g_nil <| g_qt ?_
     refine g_ifnd rfl (fun h3 => ?_) (fun h3 => ?_)
     ·rw [if_pos (by omega)] at hst
      refine g_region ?_
      refine g_mv ?_
      refine g_mv ?_
      refine g_eff (e_bs (xs := [.tmp 43]) rfl rfl rfl (by rfl) (by rfl) rfl (by rfl)) rfl (fun _ _ => ?_)
      rintro ⟨b44, rfl, rfl⟩
      refine g_eff (e_appendO (by rfl) (by rfl) rfl rfl (by first | (apply Has.own; (repeat' (first | exact Take.here | apply Take.there)); done) | exact Has.ro (by assumption)) (by rfl) (by rfl) (by repeat' (first | exact Take.here | apply Take.there)) (by omega) (by first | omega | (dsimp only; omega) | (simp <;> omega)) (by omega)) rfl (fun _ _ => ?_)
      rintro ⟨a45, c45, rfl, rfl⟩
      refine g_as ?_
      refine g_nil <| g_qb <| g_qt <| g_region ?_
      first | refine g_pure (p_addi rfl rfl (by omega)) rfl ?_ | refine g_pure (p_add rfl rfl) rfl ?_
      refine g_mv ?_
      refine g_nil <| g_qn ?_
      rw [show (plc op k).map (fun x : Nat => Value.int .i64 x) ++ [Value.int IntKind.i64 k] = (plc op (k + 1)).map (fun x : Nat => Value.int .i64 x) by rw [hst, List.map_append]; rfl, show (plc op k).length + 1 = (plc op (k + 1)).length by rw [hst, List.length_append]; rfl]
      exact g_nextA (k + 1, a45, c45) (by dsimp only; omega) (by dsimp only; omega)
     ·rw [if_neg (by omega)] at hst
      refine g_skip <| g_qb <| g_qt <| g_region ?_
      first | refine g_pure (p_addi rfl rfl (by omega)) rfl ?_ | refine g_pure (p_add rfl rfl) rfl ?_
      refine g_mv ?_
      refine g_nil <| g_qn ?_
      rw [← hst]
      exact g_nextA (k + 1, oa, oc) (by dsimp only; omega) (by dsimp only; omega)
    ·have hke : k = 4 := by omega
     subst hke
     rw [hall]
     generalize hps : placesOf op = ps at i1 i2 hpl4 ⊢
     have hplt : ∀ x ∈ ps, x < 4 := by rw [← hps]; exact places_lt op h11
     refine g_exit <| g_qt_exit <| g_qn_exit <| g_qb_exit <| g_qt <| g_seq <| g_region ?_
     refine g_mv ?_
     refine g_ld ?_
     refine g_pure (p_slicel rfl rfl (by omega)) rfl ?_
     refine g_mv ?_
     refine g_pure (p_len (by rfl) rfl) rfl ?_
     refine g_call (Hin := [Rd 73 p lb ls.length s1]) (Hr := ?hr5) (R := ?rr5) rfl rfl rfl ?hin5 ?hc5 ?hk5
     case hin5 => repeat' (first | exact Cover.nil | exact Take.here | apply Cover.cons | apply Take.there)
     case hc5 => intro ρ' hρ hR; exact numbers_ok (hk.mono hρ) p lb ls.length s1 (by omega) _ _ W (tail_rsl (w0 := w0) (Take.ro (A := Blk wb (.cells ((w0 :: W).map strV).toArray 9 (0, 0))) (by repeat' (first | exact Take.here | apply Take.there)) hR).blk (fun h => tail_addr (w0 := w0) h)) hlW hwW ps.length
     rintro _ _ ⟨na, nc, out, rfl, ho1, ho2, rfl⟩
     refine g_as ?_
     refine g_nil <| g_qt <| g_seq <| g_seq <| g_region ?_
     refine g_mv ?_
     refine g_pure (p_nilCheck rfl) rfl ?_
     refine g_fa ?_
     refine g_ld ?_
     refine g_pure (p_neq rfl rfl) rfl ?_
     refine g_nil <| g_qt ?_
     have hnz := @numbersS_zero W ps.length s1
     generalize numbersS W ps.length s1 = s2 at i1 i2 ho2 hnz ⊢
     obtain ⟨at2, e2⟩ := s2
     dsimp only at i1 i2 ho2 hnz
     unfold Rd
     dsimp only
     refine g_ifnd rfl (fun h4 => ?_) (fun h4 => ?_)
     ·rw [i1 h4]
      refine g_seq <| g_region ?_
      refine g_pure (p_build (by rfl) rfl (by rfl)) rfl ?_
      first | refine g_eff0 (e_storeO rfl rfl (by rfl) (by rfl) (by rfl) (by repeat' (first | exact Take.here | apply Take.there)) (by rfl)) (fun _ _ => ?_) | refine g_eff0 (e_storeN rfl rfl (by rfl) (by rfl) (by rfl) (by repeat' (first | exact Take.here | apply Take.there)) (by simp)) (fun _ _ => ?_)
      rintro rfl
      refine g_as ?_
      refine g_nil <| g_qt <| g_ret <| g_qt_ret ?_
      exact g_postA (rs := [.cell 2 32, .tmp 3]) rfl (Res.cellN (by rfl) rfl (Has.own (by repeat' (first | exact Take.here | apply Take.there))) (by rfl) (.tmp rfl .nil)) ⟨(0, 0, 0, 0, 0), rfl, fun j h => by (cases h), rfl⟩
     ·have h4' : e2 = 0 := h4
      rw [i2 h4']
      have hov := ho2 h4'
      have hWl : W.length = ps.length := by have := (hnz h4').2 (by omega); omega
      have hol : out.length = ps.length := by omega
      refine g_skip <| g_qt <| g_seq <| g_region ?_
      refine g_eff (e_alloc (by rfl)) rfl (fun _ _ => ?_)
      rintro ⟨b10, rfl, rfl⟩
      refine g_nil <| g_qt <| g_seq <| g_seq <| g_region ?_
      refine g_mv ?_
      refine g_pure (p_len (by rfl) rfl) rfl ?_
      refine g_mv ?_
      refine g_nil <| g_qt <| g_block ?_
      have hf0 : [Value.int IntKind.i64 0, .int .i64 0, .int .i64 0, .int .i64 0] = (fillC (ps.take 0) (out.take 0)).map encI := rfl
      rw [hf0]
      refine g_loop (fun k : Nat => [(2, .pointer (some ⟨b2, 0, none⟩)), (5, .int .i64 op), (9, .slice na W.length nc), (10, .pointer (some ⟨b10, 0, none⟩)), (59, .slice oa ps.length oc), (60, .int .i64 ps.length), (61, .int .i64 k)])
       (fun k => [Blk b10 (.cells ((fillC (ps.take k) (out.take k)).map encI).toArray 60 (0, 0)), OwnSl 3 1 oa ps.length oc (ps.map fun x : Nat => Value.int .i64 x), OwnSl 3 1 na W.length nc (out.map encI), Blk p (.cells [.slice (some ⟨lb, 0, none⟩) ls.length ls.length, .int .i64 at2, .int .i64 e2].toArray 73 (0, 0)), Blk b2 (.cells [.int .i64 0, .int .i64 0, .int .i64 0, .int .i64 0, .int .i64 0].toArray 32 (0, 0))])
       (fun k => k ≤ ps.length) (fun k => ps.length - k) 0 (Nat.zero_le _) (by (repeat (first | exact trivial | refine ⟨by rfl, ?_⟩)); done) (by repeat' (first | exact Cover.nil | exact Take.here | apply Cover.cons | apply Take.there)) ?_
      rintro k hk2
      refine g_seq <| g_region ?_
      refine g_pure (p_lss rfl rfl) rfl ?_
      refine g_nil <| g_qt <| g_seq ?_
      refine g_ifd rfl (fun t => ?_) (fun t => ?_)
      ·have hkp : k < ps.length := by omega
       have hko : k < out.length := by omega
       have hxp : (ps.map fun x : Nat => Value.int .i64 x)[k]? = some (.int .i64 (ps[k] : Nat)) := by rw [List.getElem?_map, List.getElem?_eq_getElem hkp]; rfl
       have hxo := mapI2 out hko
       have hlt := hplt ps[k] (List.getElem_mem hkp)
       have hst := fillC_step hkp hko
       have hfl := fillC_len (ps.take k) (out.take k)
       have hset : ∀ v : Int, ((fillC (ps.take k) (out.take k)).map encI).set (0 + (ps[k] : Int).toNat * 1) (.int .i64 v) = ((fillC (ps.take k) (out.take k)).set ps[k] v).map encI := fun v => by
        rw [show 0 + (ps[k] : Int).toNat * 1 = ps[k] by omega, List.map_set]
       generalize ps[k] = pk at hxp hlt hst hset
       generalize out[k] = ok at hxo hst
       refine g_own (e := 3) (size := 1) (a1 := oa) (k := ps.length) (cap := oc) (xs := ps.map fun x : Nat => Value.int .i64 x) (by repeat' (first | exact Take.here | apply Take.there)) (fun _ h _ _ => absurd h (by omega)) ?_
       rintro g cur rfl hc1 hc2 hcl htk hxl
       refine g_own (e := 3) (size := 1) (a1 := na) (k := W.length) (cap := nc) (xs := out.map encI) (by repeat' (first | exact Take.here | apply Take.there)) (fun _ h _ _ => absurd h (by omega)) ?_
       rintro g' cur' rfl hc1' hc2' hcl' htk' hxl'
       refine g_skip <| g_qt <| g_seq <| g_block <| g_seq <| g_region ?_
       refine g_mv ?_
       refine g_pure (p_indexAddr rfl rfl (by omega) (fun _ => rfl)) rfl ?_
       refine g_pure (p_load (v := .int .i64 (pk : Nat)) (by rfl) rfl (Has.own (by repeat' (first | exact Take.here | apply Take.there))) (own_at (k := k) htk (by show 0 + (k : Int).toNat * 1 = _; omega) hxp)) rfl ?_
       refine g_as ?_
       refine g_as ?_
       refine g_nil <| g_qt <| g_region ?_
       refine g_mv ?_
       refine g_mv ?_
       refine g_mv ?_
       refine g_pure (p_indexAddr rfl rfl (by omega) (fun _ => rfl)) rfl ?_
       refine g_pure (p_load (v := .int .i64 ok) (by rfl) rfl (Has.own (by repeat' (first | exact Take.here | apply Take.there))) (own_at (k := k) htk' (by show 0 + (k : Int).toNat * 1 = _; omega) hxo)) rfl ?_
       refine g_pure (p_indexAddrA (he := ty3) (by rfl) rfl rfl (by omega)) rfl ?_
       first | refine g_eff0 (e_storeO rfl rfl (by rfl) (by rfl) (by rfl) (by repeat' (first | exact Take.here | apply Take.there)) (by rfl)) (fun _ _ => ?_) | refine g_eff0 (e_store1 (by rfl) rfl rfl rfl (by repeat' (first | exact Take.here | apply Take.there)) (by first | decide | (simp <;> omega) | omega)) (fun _ _ => ?_)
       rintro rfl
       refine g_nil <| g_qb <| g_qt <| g_region ?_
       first | refine g_pure (p_addi rfl rfl (by omega)) rfl ?_ | refine g_pure (p_add rfl rfl) rfl ?_
       refine g_mv ?_
       refine g_nil <| g_qn ?_
       rw [hset, ← hst]
       refine g_fold (e := 3) (size := 1) (g := g) (k := ps.length) (cap := oc) (cur := cur) (xs := ps.map fun x : Nat => Value.int .i64 x) (by repeat' (first | exact Take.here | apply Take.there)) hc1 hc2 hcl htk ?_
       refine g_fold (e := 3) (size := 1) (g := g') (k := W.length) (cap := nc) (cur := cur') (xs := out.map encI) (by repeat' (first | exact Take.here | apply Take.there)) hc1' hc2' hcl' htk' ?_
       exact g_nextA (k + 1) hkp (by omega)
      ·have hke : k = ps.length := by omega
       subst hke
       rw [List.take_length, List.take_of_length_le (by omega : out.length ≤ ps.length)]
       have hfl := fillC_len ps out
       have hmk : mkIns op (numsV W) = ((op : Int), (fillC ps out).getD 0 0, (fillC ps out).getD 1 0, (fillC ps out).getD 2 0, (fillC ps out).getD 3 0) := by rw [← hov, ← hps]; rfl
       rw [hmk]
       generalize fillC ps out = F at hfl
       match F, hfl with
       | [f0, f1, f2, f3], _ =>
       refine g_exit <| g_qt_exit <| g_qn_exit <| g_qb_exit <| g_qt <| g_seq <| g_region ?_
       refine g_mv ?_
       refine g_pure (p_indexAddrA (he := ty3) (by rfl) rfl rfl (by omega)) rfl ?_
       refine g_ld ?_
       refine g_pure (p_indexAddrA (he := ty3) (by rfl) rfl rfl (by omega)) rfl ?_
       refine g_ld ?_
       refine g_pure (p_indexAddrA (he := ty3) (by rfl) rfl rfl (by omega)) rfl ?_
       refine g_ld ?_
       refine g_pure (p_indexAddrA (he := ty3) (by rfl) rfl rfl (by omega)) rfl ?_
       refine g_ld ?_
       refine g_pure (p_build (by rfl) rfl (by rfl)) rfl ?_
       first | refine g_eff0 (e_storeO rfl rfl (by rfl) (by rfl) (by rfl) (by repeat' (first | exact Take.here | apply Take.there)) (by rfl)) (fun _ _ => ?_) | refine g_eff0 (e_storeN rfl rfl (by rfl) (by rfl) (by rfl) (by repeat' (first | exact Take.here | apply Take.there)) (by simp)) (fun _ _ => ?_)
       rintro rfl
       refine g_as ?_
       refine g_nil <| g_qt <| g_ret ?_
       exact g_postA (rs := [.cell 2 32, .tmp 3]) rfl (Res.cellN (by rfl) rfl (Has.own (by repeat' (first | exact Take.here | apply Take.there))) (by rfl) (.tmp rfl .nil)) ⟨((op : Int), f0, f1, f2, f3), rfl, fun j h => by (injection h), rfl⟩
end Go.Proofs.YtcnfcoojmbjdlaaGreatDoor
