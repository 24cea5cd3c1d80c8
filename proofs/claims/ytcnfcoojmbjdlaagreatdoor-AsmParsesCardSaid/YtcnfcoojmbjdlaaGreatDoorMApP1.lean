/- Own texts, put together: Pu Pv Pw Pl Pm. Conditions: as told at each. -/
import Derived.Test.YtcnfcoojmbjdlaaGreatDoorMApP0
import Derived.Test.YtcnfcoojmbjdlaaGreatDoorMApQ0
import Derived.Test.YtcnfcoojmbjdlaaGreatDoorZm
/- Chapter 26: a routine read. Conditions: what the library's variables hold (LibA). -/
namespace Go.Z.Asm
set_option maxRecDepth 8000
set_option linter.unusedVariables false
set_option linter.unusedSimpArgs false
set_option linter.unusedSectionVars false
open Go Go.Z Go.Lib Go.Z.Txt
theorem inv_any {ls : List (List UInt8)} {R : Res'} {p p' : PS} {s : RS} (h : Inv ls R p s) (he : s.2 ≠ 0) : Inv ls R p' s := ⟨h.1, fun h0 => absurd h0 he, h.2.2⟩
theorem list_many {ls : List (List UInt8)} {word : List UInt8} {many : Int} {s : RS} (h : (listS ls word many s).2 = 0) (h0 : 0 ≤ many) : ((nextS ls s).1.tail.length : Int) = many := (numbersS_zero (W := (nextS ls s).1.tail) h).2 h0
def regP (q : PS) (z : Int) : PS := (q.1, q.2.1, (q.2.2.1.1, q.2.2.1.2.1, q.2.2.1.2.2.1, z, q.2.2.1.2.2.2.2), 5)
theorem inv_regs {ls : List (List UInt8)} {R : Res'} {p : PS} {s : RS} {v : List Int} {z : Int} (h : Inv ls R (putW p v) s) (hw : p.2.2.2 = 4) (hz : s.2 = 0 → z = v.headD 0) : Inv ls R (regP p z) s := by
 by_cases h0 : s.2 = 0
 ·have e : regP p z = putW p v := by
   obtain ⟨a, b, c, d⟩ := p
   dsimp only at hw
   subst hw
   rw [hz h0]; rfl
  rw [e]; exact h
 ·exact inv_any h h0
theorem al_nil : Al [] (fun _ => none) := rfl
end Go.Z.Asm
namespace Go.Proofs.YtcnfcoojmbjdlaaGreatDoor
set_option maxRecDepth 8000
set_option linter.unusedVariables false
set_option linter.unusedSimpArgs false
set_option linter.unusedSectionVars false
open Go Go.Z Go.Z.Asm Go.RowKit Go.Z.Txt

set_option maxHeartbeats 400000 in
theorem routG_gen {ρ : Nat → Obj → Prop} {RD : RS → Assn} {p lb : Nat} {ls : List (List UInt8)} (hRD : RD = Rd 73 p lb ls.length) (hk : LibA ρ) (hL : Lns ρ lb ls) (hsm : ls.length ≤ 4194305) (s : RS) {R : Res'} {q : PS} (hI : Inv ls R q s) (hw : q.2.2.2 = 1) (hm : moreS ls s = true) :
  Con Tryz.prog ρ 52 #[.pointer (some ⟨p, 0, none⟩)] [RD s]
  (fun v H => ∃ (h : Hd) (x : Rt) (s' : RS), v = .agg #[.string (strB x.1), .slice h.1.1 x.2.1.length h.1.2, .slice h.2.1.1 x.2.2.1.length h.2.1.2, .int .i64 x.2.2.2.1, .slice h.2.2.1.1 x.2.2.2.2.1.length h.2.2.1.2, .slice h.2.2.2.1 x.2.2.2.2.2.length h.2.2.2.2] ∧ H = [fragP 3 32 (h, x), RD s'] ∧ Inv ls R (q.1, q.2.1 ++ [x], x, 1) s' ∧ (s'.2 = 0 → s.1 < s'.1)) := by
 have hs := hI.1
 have hll := hL.len
 have hne := nextS_ne ls s
 have hat := nextS_at ls s
 have hI3 := inv_head hI hw hm
 obtain ⟨hw1, hw2⟩ := nextS_words (s := s) hL.each
 have hhl := headS_lt hs
 have l1 := listS_lt inB (-1) hhl
 have l2 := listS_lt outW (-1) l1
 have l3 := listS_lt regsW 1 l2
 have l4 := listS_lt initW (-1) l3
 have hhd : headS ls s = doneS (if (nextS ls s).1.headD [] ≠ routW ∨ (nextS ls s).1.length ≠ 2 then failS 5 (nextS ls s).2 else (nextS ls s).2) := rfl
 have hprog : (headS ls s).2 = 0 → (headS ls s).1 = s.1 + 1 := fun h => by
  rw [hhd] at h ⊢
  have ha : (if (nextS ls s).1.headD [] ≠ routW ∨ (nextS ls s).1.length ≠ 2 then failS 5 (nextS ls s).2 else (nextS ls s).2).1 = s.1 := by split <;> exact hat
  generalize (if (nextS ls s).1.headD [] ≠ routW ∨ (nextS ls s).1.length ≠ 2 then failS 5 (nextS ls s).2 else (nextS ls s).2) = t at ha h ⊢
  unfold doneS at h ⊢
  by_cases h0 : t.2 = 0
  ·rw [if_pos h0, ha]
  ·rw [if_neg h0] at h; exact absurd h h0
 have hle : ∀ (word : List UInt8) (many : Int) (t : RS), (listS ls word many t).2 = 0 → t.2 = 0 ∧ t.1 ≤ (listS ls word many t).1 := fun word many t h => by
  have h0 : t.2 = 0 := Classical.byContradiction fun h0 => by rw [listS_err h0] at h; exact h0 h
  refine ⟨h0, ?_⟩
  have e : listS ls word many t = numbersS (nextS ls t).1.tail many (if (nextS ls t).1.headD [] ≠ word then failS 5 (nextS ls t).2 else (nextS ls t).2) := rfl
  have ha : (if (nextS ls t).1.headD [] ≠ word then failS 5 (nextS ls t).2 else (nextS ls t).2).1 = t.1 := by split <;> exact nextS_at ls t
  rw [e] at h ⊢
  generalize (if (nextS ls t).1.headD [] ≠ word then failS 5 (nextS ls t).2 else (nextS ls t).2) = u at ha h ⊢
  rw [numbersS_eq]
  have h1 : (if 0 ≤ many ∧ ((nextS ls t).1.tail.length : Int) ≠ many then failS 5 (badS (nextS ls t).1.tail u) else badS (nextS ls t).1.tail u).1 = t.1 := by rw [← ha]; split <;> exact badS_at _ _
  generalize (if 0 ≤ many ∧ ((nextS ls t).1.tail.length : Int) ≠ many then failS 5 (badS (nextS ls t).1.tail u) else badS (nextS ls t).1.tail u) = y at h1
  unfold doneS
  split
  ·dsimp only; omega
  ·omega
 have cN : ∀ {ρ' : Nat → Obj → Prop}, (∀ b o, ρ b o → ρ' b o) → Con Tryz.prog ρ' 73 #[.pointer (some ⟨p, 0, none⟩)] [RD s] (fun v H => ∃ wb : Nat, v = .slice (some ⟨wb, 0, none⟩) (nextS ls s).1.length (nextS ls s).1.length ∧ H = [Blk wb (.cells ((nextS ls s).1.map strV).toArray 9 (0, 0)), RD (nextS ls s).2]) := fun {ρ'} hρ => by
  have := next_ok (hk.mono hρ) (hL.mono hρ) p s hs
  rw [← hRD] at this; exact this
 have cF : ∀ (ρ' : Nat → Obj → Prop) (t : RS) (x : Int), Con Tryz.prog ρ' 74 #[.pointer (some ⟨p, 0, none⟩), .int .i64 x] [RD t] (fun v H => v = .tuple #[] ∧ H = [RD (failS x t)]) := fun ρ' t x => by
  have := fail_ok (ρ := ρ') p lb ls.length t x
  rw [← hRD] at this; exact this
 have cD : ∀ (ρ' : Nat → Obj → Prop) (t : RS), t.1 ≤ 4611686018427387904 → Con Tryz.prog ρ' 76 #[.pointer (some ⟨p, 0, none⟩)] [RD t] (fun v H => v = .tuple #[] ∧ H = [RD (doneS t)]) := fun ρ' t h => by
  have := done_ok (ρ := ρ') p lb ls.length t h
  rw [← hRD] at this; exact this
 have cL : ∀ {ρ' : Nat → Obj → Prop}, (∀ b o, ρ b o → ρ' b o) → ∀ (t : RS), t.1 < ls.length → ∀ (word : List UInt8) (many : Int) (u : RS), listS ls word many t = u → Con Tryz.prog ρ' 50 #[.pointer (some ⟨p, 0, none⟩), .string (strB word), .int .i64 many] [RD t]
   (fun v H => ∃ oa oc, ∃ out : List Int, v = .slice oa out.length oc ∧ (out.length = (nextS ls t).1.tail.length ∧ (u.2 = 0 → out = numsV (nextS ls t).1.tail)) ∧ H = [OwnSl 3 1 oa out.length oc (out.map encI), RD u]) := fun {ρ'} hρ t ht word many u hu => by
  have := list_ok (hk.mono hρ) (hL.mono hρ) p t ht word many
  rw [← hRD, hu] at this
  exact this.mono fun v H ⟨oa, oc, out, h1, h3, h4, h2⟩ => ⟨oa, oc, out, h1, ⟨h3, h4⟩, h2⟩
 have cI : ∀ {ρ' : Nat → Obj → Prop}, (∀ b o, ρ b o → ρ' b o) → ∀ (t : RS), t.1 < ls.length → ∀ (u : RS) (oi : Option Ins), insS ls t = (u, oi) → Con Tryz.prog ρ' 77 #[.pointer (some ⟨p, 0, none⟩)] [RD t] (fun v H => ∃ i : Ins, v = .tuple #[.agg #[.int .i64 i.1, .int .i64 i.2.1, .int .i64 i.2.2.1, .int .i64 i.2.2.2.1, .int .i64 i.2.2.2.2], .bool oi.isSome] ∧ (∀ j, oi = some j → i = j) ∧ H = [RD u]) := fun {ρ'} hρ t ht u oi hu => by
  have := insG_ok (hk.mono hρ) (hL.mono hρ) p t ht
  rw [← hRD, hu] at this; exact this
 refine con_intro Tryz.func52 Tryz.call52 rfl Tryz.ntmps52 rfl (L := [(0, _)]) rfl fun w hh => ?_
 refine g_seq <| g_region ?_
 refine g_eff (e_alloc (by rfl)) rfl (fun _ _ => ?_)
 rintro ⟨b2, rfl, rfl⟩
 refine g_nil <| g_qt <| g_seq <| g_region ?_
 refine g_mv ?_
 refine g_call (Hin := [RD s]) (Hr := ?hr1) (R := ?rr1) rfl rfl rfl ?hin1 ?hc1 ?hk1
 case hin1 => repeat' (first | exact Cover.nil | exact Take.here | apply Cover.cons | apply Take.there)
 case hc1 => intro ρ' hρ hR; exact cN hρ
 rintro _ _ ⟨wb, rfl, rfl⟩
 generalize nextS ls s = N at hne hat hw1 hw2 hhd hI3 ⊢
 obtain ⟨W, s1⟩ := N
 dsimp only at hne hat hw1 hw2 hhd hI3 ⊢
 match W, hne with
 | w0 :: W, _ =>
 rw [List.headD_cons] at hhd
 refine g_as ?_
 refine g_nil <| g_qt <| g_seq ?_
 refine g_join (fun _ : Unit => [(0, .pointer (some ⟨p, 0, none⟩)), (2, .pointer (some ⟨b2, 0, none⟩)), (3, .slice (some ⟨wb, 0, none⟩) (w0 :: W).length (w0 :: W).length)]) (fun _ => [Blk wb (.cells ((w0 :: W).map strV).toArray 9 (0, 0)), RD (if w0 ≠ routW ∨ (w0 :: W).length ≠ 2 then failS 5 s1 else s1), Blk b2 (.cells [.string ⟨#[]⟩, .slice none 0 0, .slice none 0 0, .int .i64 0, .slice none 0 0, .slice none 0 0].toArray 45 (0, 0))]) (fun _ => True) ?_ ?_
 ·refine g_seq <| g_region ?_
  refine g_mv ?_
  refine g_pure (p_indexAddr rfl rfl (by simp) (fun _ => rfl)) rfl ?_
  refine g_pure (p_load (v := .string (strB w0)) (by rfl) rfl (Has.own (by repeat' (first | exact Take.here | apply Take.there))) (by rfl)) rfl ?_
  refine g_pure (p_neqs (i := strB w0) (j := strB routW) (by rfl) rfl rfl) rfl ?_
  refine g_mv ?_
  refine g_splitnd rfl rfl (fun h1 => ?_) (fun h1 => ?_)
  ·refine g_noA ?_
   refine g_noA ?_
   refine g_noA ?_
   first | refine g_pkt ?_ | refine g_pkf ?_
   refine g_nil <| g_qt ?_
   refine g_ift rfl ?_
   refine g_region ?_
   refine g_mv ?_
   refine g_call (Hin := [RD s1]) (Hr := ?hr2) (R := ?rr2) rfl rfl rfl ?hin2 ?hc2 ?hk2
   case hin2 => repeat' (first | exact Cover.nil | exact Take.here | apply Cover.cons | apply Take.there)
   case hc2 => intro ρ' hρ hR; exact cF ρ' s1 5
   rintro _ _ ⟨rfl, rfl⟩
   refine g_nil <| g_qn ?_
   first | (rw [if_pos (show w0 ≠ routW ∨ (w0 :: W).length ≠ 2 from by first | (refine .inl (fun h => ?_); have h9 := strB_inj.2 h; contradiction) | (refine .inr ?_; omega))]; exact g_joinedA () trivial) | (rw [if_neg (fun h : w0 ≠ routW ∨ (w0 :: W).length ≠ 2 => by rcases h with h | h; exact h (strB_inj.1 (by assumption)); omega)]; exact g_joinedA () trivial)
  ·refine g_yesA ?_
   refine g_mv ?_
   refine g_yesA ?_
   refine g_pure (p_len (by rfl) rfl) rfl ?_
   refine g_yesA ?_
   refine g_pure (p_neq rfl rfl) rfl ?_
   first | refine g_pkt ?_ | refine g_pkf ?_
   refine g_nil <| g_qt ?_
   refine g_ifndL rfl (fun h3 => ?_) (fun h3 => ?_)
   ·refine g_region ?_
    refine g_mv ?_
    refine g_call (Hin := [RD s1]) (Hr := ?hr3) (R := ?rr3) rfl rfl rfl ?hin3 ?hc3 ?hk3
    case hin3 => repeat' (first | exact Cover.nil | exact Take.here | apply Cover.cons | apply Take.there)
    case hc3 => intro ρ' hρ hR; exact cF ρ' s1 5
    rintro _ _ ⟨rfl, rfl⟩
    refine g_nil <| g_qn ?_
    first | (rw [if_pos (show w0 ≠ routW ∨ (w0 :: W).length ≠ 2 from by first | (refine .inl (fun h => ?_); have h9 := strB_inj.2 h; contradiction) | (refine .inr ?_; omega))]; exact g_joinedA () trivial) | (rw [if_neg (fun h : w0 ≠ routW ∨ (w0 :: W).length ≠ 2 => by rcases h with h | h; exact h (strB_inj.1 (by assumption)); omega)]; exact g_joinedA () trivial)
   ·refine g_skip <| g_qn ?_
    first | (rw [if_pos (show w0 ≠ routW ∨ (w0 :: W).length ≠ 2 from by first | (refine .inl (fun h => ?_); have h9 := strB_inj.2 h; contradiction) | (refine .inr ?_; omega))]; exact g_joinedA () trivial) | (rw [if_neg (fun h : w0 ≠ routW ∨ (w0 :: W).length ≠ 2 => by rcases h with h | h; exact h (strB_inj.1 (by assumption)); omega)]; exact g_joinedA () trivial)
 rintro _ -
 refine g_qt ?_
 have hat2 : (if w0 ≠ routW ∨ (w0 :: W).length ≠ 2 then failS 5 s1 else s1).1 = s.1 := by split <;> exact hat
 generalize (if w0 ≠ routW ∨ (w0 :: W).length ≠ 2 then failS 5 s1 else s1) = s2 at hat2 hhd ⊢
 refine g_seq <| g_region ?_
 refine g_mv ?_
 refine g_call (Hin := [RD s2]) (Hr := ?hr4) (R := ?rr4) rfl rfl rfl ?hin4 ?hc4 ?hk4
 case hin4 => repeat' (first | exact Cover.nil | exact Take.here | apply Cover.cons | apply Take.there)
 case hc4 => intro ρ' hρ hR; exact cD ρ' s2 (by omega)
 rintro _ _ ⟨rfl, rfl⟩
 rw [← hhd]
 have hwl : ((w0 :: W).map strV)[(w0 :: W).length - 1]? = some (.string (strB ((w0 :: W).getLastD []))) := by
  rw [List.getElem?_map, ← List.getLast?_eq_getElem?, List.getLastD_eq_getLast?]
  cases e : (w0 :: W).getLast? with
  | none => rw [List.getLast?_eq_none_iff] at e; cases e
  | some v => rfl
 generalize (w0 :: W).getLastD [] = wl at hwl hI3
 generalize hs3 : headS ls s = s3 at hhl l1 l2 l3 l4 hI3 hprog ⊢
 generalize hs4 : listS ls inB (-1) s3 = s4 at l1 l2 l3 l4 ⊢
 generalize hs5 : listS ls outW (-1) s4 = s5 at l2 l3 l4 ⊢
 generalize hs6 : listS ls regsW 1 s5 = s6 at l3 l4 ⊢
 generalize hs7 : listS ls initW (-1) s6 = s7 at l4 ⊢
 have hp7 : s7.2 = 0 → s.1 < s7.1 := fun h => by
  have a7 := hle initW (-1) s6 (by rw [hs7]; exact h)
  have a6 := hle regsW 1 s5 (by rw [hs6]; exact a7.1)
  have a5 := hle outW (-1) s4 (by rw [hs5]; exact a6.1)
  have a4 := hle inB (-1) s3 (by rw [hs4]; exact a5.1)
  have a3 := hprog a4.1
  rw [hs7] at a7; rw [hs6] at a6; rw [hs5] at a5; rw [hs4] at a4
  omega
 refine g_nil <| g_qt <| g_seq ?_
 refine g_join (fun y : Nat × (Option Addr × Nat × List Int) × (Option Addr × Nat × List Int) => [(0, .pointer (some ⟨p, 0, none⟩)), (2, .pointer (some ⟨b2, 0, none⟩)), (4, .pointer (some ⟨y.1, 0, none⟩))])
  (fun y => [Blk y.1 (.cells [.string (strB wl), .slice y.2.1.1 y.2.1.2.2.length y.2.1.2.1, .slice y.2.2.1 y.2.2.2.2.length y.2.2.2.1, .int .i64 0, .slice none 0 0, .slice none 0 0].toArray 45 (0, 0)), OwnSl 3 1 y.2.1.1 y.2.1.2.2.length y.2.1.2.1 (y.2.1.2.2.map encI), OwnSl 3 1 y.2.2.1 y.2.2.2.2.length y.2.2.2.1 (y.2.2.2.2.map encI), RD s5, Blk b2 (.cells [.string ⟨#[]⟩, .slice none 0 0, .slice none 0 0, .int .i64 0, .slice none 0 0, .slice none 0 0].toArray 45 (0, 0))]) (fun y => Inv ls R (putW (putW (newP q wl) y.2.1.2.2) y.2.2.2.2) s5) ?_ ?_
 ·refine m_begin (.fl 0 0 (.fl 1 0 (.fl 2 0 (.fl 3 0 (.fl 4 0 (.fl 5 1 (.fl 6 0 (.fl 8 0 (.or (.ef 7 (.or (.ef 9 (.fl 10 0 (.ef 11 (.ef 12 .done)))) (.ef 11 (.ef 9 (.fl 10 0 (.ef 12 .done)))))) (.ef 11 (.ef 7 (.ef 9 (.fl 10 0 (.ef 12 .done)))))))))))))) [Blk wb (.cells ((w0 :: W).map strV).toArray 9 (0, 0)), Blk b2 (.cells [.string ⟨#[]⟩, .slice none 0 0, .slice none 0 0, .int .i64 0, .slice none 0 0, .slice none 0 0].toArray 45 (0, 0))] (by kernel_rfl) (by kernel_rfl) (by repeat' (first | exact Cover.nil | exact Take.here | apply Cover.cons | apply Take.there)) ?_
  refine m_float0 rfl (fun _ _ => p_move rfl) rfl ?_
  refine m_float0 rfl (fun _ _ => p_move rfl) rfl ?_
  refine m_float0 rfl (fun _ _ => p_len (by rfl) rfl) rfl ?_
  first | refine m_float0 rfl (fun _ _ => p_subi rfl rfl (by omega)) rfl ?_ | refine m_float0 rfl (fun _ _ => p_sub rfl rfl) rfl ?_
  refine m_float0 rfl (fun _ _ => p_indexAddr rfl rfl (by simp; omega) (fun _ => rfl)) rfl ?_
  refine m_float rfl (p_load (v := .string (strB wl)) (by rfl) rfl (Has.own (by repeat' (first | exact Take.here | apply Take.there))) (by rw [← hwl]; congr 1; simp)) rfl ?_
  refine m_float0 rfl (fun _ _ => p_move rfl) rfl ?_
  refine m_float0 rfl (fun _ _ => p_move rfl) rfl ?_
  refine m_or ?_ ?_
  ·refine m_call (Hin := [RD s3]) (Hr := ?hr5) (R := ?rr5) rfl wantedN rfl rfl rfl ?hin5 ?hc5 ?hk5
   case hin5 => repeat' (first | exact Cover.nil | exact Take.here | apply Cover.cons | apply Take.there)
   case hc5 => intro ρ' hρ hR; exact cL hρ s3 hhl inB (-1) s4 hs4
   rintro _ _ ⟨a31, c31, out31, rfl, hv31, rfl⟩
   refine ⟨.some (by repeat' (first | exact Cover.nil | exact Take.here | apply Cover.cons | apply Take.there)), ?_⟩
   refine m_or ?_ ?_
   ·refine m_call (Hin := [RD s4]) (Hr := ?hr6) (R := ?rr6) rfl wantedN rfl rfl rfl ?hin6 ?hc6 ?hk6
    case hin6 => repeat' (first | exact Cover.nil | exact Take.here | apply Cover.cons | apply Take.there)
    case hc6 => intro ρ' hρ hR; exact cL hρ s4 l1 outW (-1) s5 hs5
    rintro _ _ ⟨a33, c33, out33, rfl, hv33, rfl⟩
    refine ⟨.some (by repeat' (first | exact Cover.nil | exact Take.here | apply Cover.cons | apply Take.there)), ?_⟩
    refine m_float0 rfl (fun _ _ => p_build (by rfl) rfl (by rfl)) rfl ?_
    refine m_eff rfl (e_alloc (by rfl)) rfl (fun _ _ => ?_)
    rintro ⟨b4, rfl, rfl⟩
    refine ⟨.some (by repeat' (first | exact Cover.nil | exact Take.here | apply Cover.cons | apply Take.there)), ?_⟩
    first | refine m_eff0 rfl (e_storeO rfl rfl (by rfl) (by rfl) (by rfl) (by repeat' (first | exact Take.here | apply Take.there)) (by rfl)) (fun _ _ => ?_) | refine m_eff0 rfl (e_storeN rfl rfl (by rfl) (by rfl) (by rfl) (by repeat' (first | exact Take.here | apply Take.there)) (by simp)) (fun _ _ => ?_)
    rintro rfl
    refine ⟨.none (by kernel_rfl), ?_⟩
    refine m_nil ?_
    refine g_qn ?_
    (have hI4 : Inv ls R (putW (newP q wl) out31) s4 := by have := inv_list (w := 2) (v := out31) hI3 rfl (by decide) (by decide) (by intro h; exact hv31.2 (by rw [← hs4]; exact h)); rw [← hs4]; exact this)
    (have hI5 : Inv ls R (putW (putW (newP q wl) out31) out33) s5 := by have := inv_list (w := 3) (v := out33) hI4 rfl (by decide) (by decide) (by intro h; exact hv33.2 (by rw [← hs5]; exact h)); rw [← hs5]; exact this)
    exact g_joinedA (b4, (a31, c31, out31), (a33, c33, out33)) hI5
   refine m_eff rfl (e_alloc (by rfl)) rfl (fun _ _ => ?_)
   rintro ⟨b4, rfl, rfl⟩
   refine ⟨.some (by repeat' (first | exact Cover.nil | exact Take.here | apply Cover.cons | apply Take.there)), ?_⟩
   refine m_call (Hin := [RD s4]) (Hr := ?hr7) (R := ?rr7) rfl wantedN rfl rfl rfl ?hin7 ?hc7 ?hk7
   case hin7 => repeat' (first | exact Cover.nil | exact Take.here | apply Cover.cons | apply Take.there)
   case hc7 => intro ρ' hρ hR; exact cL hρ s4 l1 outW (-1) s5 hs5
   rintro _ _ ⟨a33, c33, out33, rfl, hv33, rfl⟩
   refine ⟨.some (by repeat' (first | exact Cover.nil | exact Take.here | apply Cover.cons | apply Take.there)), ?_⟩
   refine m_float0 rfl (fun _ _ => p_build (by rfl) rfl (by rfl)) rfl ?_
   first | refine m_eff0 rfl (e_storeO rfl rfl (by rfl) (by rfl) (by rfl) (by repeat' (first | exact Take.here | apply Take.there)) (by rfl)) (fun _ _ => ?_) | refine m_eff0 rfl (e_storeN rfl rfl (by rfl) (by rfl) (by rfl) (by repeat' (first | exact Take.here | apply Take.there)) (by simp)) (fun _ _ => ?_)
   rintro rfl
   refine ⟨.none (by kernel_rfl), ?_⟩
   refine m_nil ?_
   refine g_qn ?_
   (have hI4 : Inv ls R (putW (newP q wl) out31) s4 := by have := inv_list (w := 2) (v := out31) hI3 rfl (by decide) (by decide) (by intro h; exact hv31.2 (by rw [← hs4]; exact h)); rw [← hs4]; exact this)
   (have hI5 : Inv ls R (putW (putW (newP q wl) out31) out33) s5 := by have := inv_list (w := 3) (v := out33) hI4 rfl (by decide) (by decide) (by intro h; exact hv33.2 (by rw [← hs5]; exact h)); rw [← hs5]; exact this)
   exact g_joinedA (b4, (a31, c31, out31), (a33, c33, out33)) hI5
  refine m_eff rfl (e_alloc (by rfl)) rfl (fun _ _ => ?_)
  rintro ⟨b4, rfl, rfl⟩
  refine ⟨.some (by repeat' (first | exact Cover.nil | exact Take.here | apply Cover.cons | apply Take.there)), ?_⟩
  refine m_call (Hin := [RD s3]) (Hr := ?hr8) (R := ?rr8) rfl wantedN rfl rfl rfl ?hin8 ?hc8 ?hk8
  case hin8 => repeat' (first | exact Cover.nil | exact Take.here | apply Cover.cons | apply Take.there)
  case hc8 => intro ρ' hρ hR; exact cL hρ s3 hhl inB (-1) s4 hs4
  rintro _ _ ⟨a31, c31, out31, rfl, hv31, rfl⟩
  refine ⟨.some (by repeat' (first | exact Cover.nil | exact Take.here | apply Cover.cons | apply Take.there)), ?_⟩
  refine m_call (Hin := [RD s4]) (Hr := ?hr9) (R := ?rr9) rfl wantedN rfl rfl rfl ?hin9 ?hc9 ?hk9
  case hin9 => repeat' (first | exact Cover.nil | exact Take.here | apply Cover.cons | apply Take.there)
  case hc9 => intro ρ' hρ hR; exact cL hρ s4 l1 outW (-1) s5 hs5
  rintro _ _ ⟨a33, c33, out33, rfl, hv33, rfl⟩
  refine ⟨.some (by repeat' (first | exact Cover.nil | exact Take.here | apply Cover.cons | apply Take.there)), ?_⟩
  refine m_float0 rfl (fun _ _ => p_build (by rfl) rfl (by rfl)) rfl ?_
  first | refine m_eff0 rfl (e_storeO rfl rfl (by rfl) (by rfl) (by rfl) (by repeat' (first | exact Take.here | apply Take.there)) (by rfl)) (fun _ _ => ?_) | refine m_eff0 rfl (e_storeN rfl rfl (by rfl) (by rfl) (by rfl) (by repeat' (first | exact Take.here | apply Take.there)) (by simp)) (fun _ _ => ?_)
  rintro rfl
  refine ⟨.none (by kernel_rfl), ?_⟩
  refine m_nil ?_
  refine g_qn ?_
  (have hI4 : Inv ls R (putW (newP q wl) out31) s4 := by have := inv_list (w := 2) (v := out31) hI3 rfl (by decide) (by decide) (by intro h; exact hv31.2 (by rw [← hs4]; exact h)); rw [← hs4]; exact this)
  (have hI5 : Inv ls R (putW (putW (newP q wl) out31) out33) s5 := by have := inv_list (w := 3) (v := out33) hI4 rfl (by decide) (by decide) (by intro h; exact hv33.2 (by rw [← hs5]; exact h)); rw [← hs5]; exact this)
  exact g_joinedA (b4, (a31, c31, out31), (a33, c33, out33)) hI5
 rintro ⟨b4, ⟨a31, c31, out31⟩, ⟨a33, c33, out33⟩⟩ hI5
 dsimp only at hI5 ⊢
 refine g_qt <| g_seq <| g_seq <| g_region ?_
 refine g_mv ?_
 refine g_call (Hin := [RD s5]) (Hr := ?hr10) (R := ?rr10) rfl rfl rfl ?hin10 ?hc10 ?hk10
 case hin10 => repeat' (first | exact Cover.nil | exact Take.here | apply Cover.cons | apply Take.there)
 case hc10 => intro ρ' hρ hR; exact cL hρ s5 l2 regsW 1 s6 hs6
 rintro _ _ ⟨a36, c36, out36, rfl, hv36, rfl⟩
 refine g_pure (p_len (by rfl) rfl) rfl ?_
 refine g_mv ?_
 refine g_nil <| g_qt <| g_block ?_
 have hI6 : Inv ls R (putW (putW (putW (newP q wl) out31) out33) out36) s6 := by
  have := inv_list (w := 4) (v := out36) hI5 rfl (by decide) (by decide) (by intro h; exact hv36.2 (by rw [← hs6]; exact h))
  rw [← hs6]; exact this
 have hlen1 : s6.2 = 0 → out36.length = 1 := fun h => by
  have := list_many (ls := ls) (word := regsW) (many := 1) (s := s5) (by rw [hs6]; exact h) (by decide)
  rw [hv36.1]; omega
 refine g_loop (fun q : Nat × Int => [(0, .pointer (some ⟨p, 0, none⟩)), (2, .pointer (some ⟨b2, 0, none⟩)), (4, .pointer (some ⟨b4, 0, none⟩)), (36, .slice a36 out36.length c36), (37, .int .i64 out36.length), (38, .int .i64 q.1)])
  (fun q => [OwnSl 3 1 a36 out36.length c36 (out36.map encI), Blk b4 (.cells [.string (strB wl), .slice a31 out31.length c31, .slice a33 out33.length c33, .int .i64 q.2, .slice none 0 0, .slice none 0 0].toArray 45 (0, 0)), OwnSl 3 1 a31 out31.length c31 (out31.map encI), OwnSl 3 1 a33 out33.length c33 (out33.map encI), RD s6, Blk b2 (.cells [.string ⟨#[]⟩, .slice none 0 0, .slice none 0 0, .int .i64 0, .slice none 0 0, .slice none 0 0].toArray 45 (0, 0))])
  (fun q => q.1 ≤ out36.length ∧ (0 < q.1 → q.2 = out36.getD (q.1 - 1) 0)) (fun q => out36.length - q.1) (0, 0) ⟨Nat.zero_le _, fun h => absurd h (Nat.lt_irrefl 0)⟩ (by (repeat (first | exact trivial | refine ⟨by rfl, ?_⟩)); done) (by repeat' (first | exact Cover.nil | exact Take.here | apply Cover.cons | apply Take.there)) ?_
 rintro ⟨k, z⟩ ⟨hk1, hk2⟩
 dsimp only at hk1 hk2 ⊢
 refine g_seq <| g_region ?_
 refine g_pure (p_lss rfl rfl) rfl ?_
 refine g_nil <| g_qt <| g_seq ?_
 refine g_ifd rfl (fun t => ?_) (fun t => ?_)
 ·have hkl : k < out36.length := by omega
  have hx := mapI2 out36 hkl
  have hgd : out36[k] = out36.getD (k + 1 - 1) 0 := by rw [Nat.add_sub_cancel, List.getD_eq_getElem?_getD, List.getElem?_eq_getElem hkl]; rfl
  refine g_own (e := 3) (size := 1) (a1 := a36) (k := out36.length) (cap := c36) (xs := out36.map encI) (by repeat' (first | exact Take.here | apply Take.there)) (fun _ h _ _ => absurd h (by omega)) ?_
  rintro g cur rfl hc1 hc2 hcl htk hxl
  refine g_skip <| g_qt <| g_seq <| g_block <| g_seq <| g_region ?_
  refine g_pure (p_indexAddr rfl rfl (by omega) (fun _ => rfl)) rfl ?_
  refine g_pure (p_load (v := .int .i64 out36[k]) (by rfl) rfl (Has.own (by repeat' (first | exact Take.here | apply Take.there))) (own_at (k := k) htk (by show 0 + (k : Int).toNat * 1 = _; omega) hx)) rfl ?_
  refine g_as ?_
  refine g_nil <| g_qt <| g_region ?_
  refine g_mv ?_
  refine g_fa ?_
  first | refine g_eff0 (e_storeO rfl rfl (by rfl) (by rfl) (by rfl) (by repeat' (first | exact Take.here | apply Take.there)) (by rfl)) (fun _ _ => ?_) | refine g_eff0 (e_store1 (by rfl) rfl rfl rfl (by repeat' (first | exact Take.here | apply Take.there)) (by first | decide | (simp <;> omega) | omega)) (fun _ _ => ?_)
  rintro rfl
  refine g_nil <| g_qb <| g_qt <| g_region ?_
  first | refine g_pure (p_addi rfl rfl (by omega)) rfl ?_ | refine g_pure (p_add rfl rfl) rfl ?_
  refine g_mv ?_
  refine g_nil <| g_qn ?_
  refine g_fold (e := 3) (size := 1) (g := g) (k := out36.length) (cap := c36) (cur := cur) (xs := out36.map encI) (by repeat' (first | exact Take.here | apply Take.there)) hc1 hc2 hcl htk ?_
  exact g_nextA (k + 1, out36[k]) ⟨hkl, fun _ => hgd⟩ (by dsimp only; omega)
 ·have hz : s6.2 = 0 → z = out36.headD 0 := fun h => by
   have h1 := hlen1 h
   have h2 := hk2 (by omega)
   rw [h2, show k - 1 = 0 by omega]
   cases out36 <;> rfl
  have hI6' := inv_regs hI6 rfl hz
  refine g_exit <| g_qt_exit <| g_qn_exit <| g_qb_exit <| g_qt <| g_seq <| g_region ?_
  refine g_mv ?_
  refine g_call (Hin := [RD s6]) (Hr := ?hr11) (R := ?rr11) rfl rfl rfl ?hin11 ?hc11 ?hk11
  case hin11 => repeat' (first | exact Cover.nil | exact Take.here | apply Cover.cons | apply Take.there)
  case hc11 => intro ρ' hρ hR; exact cL hρ s6 l3 initW (-1) s7 hs7
  rintro _ _ ⟨a46, c46, out46, rfl, hv46, rfl⟩
  refine g_fa ?_
  first | refine g_eff0 (e_storeO rfl rfl (by rfl) (by rfl) (by rfl) (by repeat' (first | exact Take.here | apply Take.there)) (by rfl)) (fun _ _ => ?_) | refine g_eff0 (e_store1 (by rfl) rfl rfl rfl (by repeat' (first | exact Take.here | apply Take.there)) (by first | decide | (simp <;> omega) | omega)) (fun _ _ => ?_)
  rintro rfl
  refine g_nil <| g_qt <| g_block ?_
  have hI7 : Inv ls R (putW (regP (putW (putW (newP q wl) out31) out33) z) out46) s7 := by
   have := inv_list (w := 5) (v := out46) hI6' rfl (by decide) (by decide) (by intro h; exact hv46.2 (by rw [← hs7]; exact h))
   rw [← hs7]; exact this
  have hP7 : putW (regP (putW (putW (newP q wl) out31) out33) z) out46 = (q.1, q.2.1, (wl, out31, out33, z, out46, []), 6) := rfl
  rw [hP7] at hI7
  refine g_ownnil (e := 32) (size := 5) ?_
  refine g_loop (fun _ : List Ins × Option Addr × Nat × RS => [(0, .pointer (some ⟨p, 0, none⟩)), (2, .pointer (some ⟨b2, 0, none⟩)), (4, .pointer (some ⟨b4, 0, none⟩))])
   (fun y => [OwnSl 32 5 y.2.1 y.1.length y.2.2.1 (y.1.flatMap encIns), Blk b4 (.cells [.string (strB wl), .slice a31 out31.length c31, .slice a33 out33.length c33, .int .i64 z, .slice a46 out46.length c46, .slice y.2.1 y.1.length y.2.2.1].toArray 45 (0, 0)), OwnSl 3 1 a31 out31.length c31 (out31.map encI), OwnSl 3 1 a33 out33.length c33 (out33.map encI), OwnSl 3 1 a46 out46.length c46 (out46.map encI), RD y.2.2.2, Blk b2 (.cells [.string ⟨#[]⟩, .slice none 0 0, .slice none 0 0, .int .i64 0, .slice none 0 0, .slice none 0 0].toArray 45 (0, 0))])
   (fun y => Inv ls R (q.1, q.2.1, (wl, out31, out33, z, out46, y.1), 6) y.2.2.2 ∧ y.1.length ≤ y.2.2.2.1 ∧ (y.2.2.2.2 = 0 → s.1 < y.2.2.2.1)) (fun y => ls.length - y.2.2.2.1) ([], none, 0, s7) ⟨hI7, Nat.zero_le _, hp7⟩ (by (repeat (first | exact trivial | refine ⟨by rfl, ?_⟩)); done) (by repeat' (first | exact Cover.nil | exact Take.here | apply Cover.cons | apply Take.there)) ?_
  rintro ⟨code, ca, cc, t⟩ ⟨hIc, hcl, hpt⟩
  dsimp only at hIc hcl hpt ⊢
  have htl := hIc.1
  have hin := inv_ins hIc rfl
  obtain ⟨⟨u, oi⟩, hu⟩ : ∃ r, insS ls t = r := ⟨_, rfl⟩
  rw [hu] at hin
  dsimp only at hin
  refine g_block <| g_seq <| g_region ?_
  refine g_mv ?_
  refine g_call (Hin := [RD t]) (Hr := ?hr12) (R := ?rr12) rfl rfl rfl ?hin12 ?hc12 ?hk12
  case hin12 => repeat' (first | exact Cover.nil | exact Take.here | apply Cover.cons | apply Take.there)
  case hc12 => intro ρ' hρ hR; exact cI hρ t htl u oi hu
  rintro _ _ ⟨i, rfl, hij, rfl⟩
  rcases oi with _ | j
  ·have hIe : Inv ls R (q.1, q.2.1 ++ [(wl, out31, out33, z, out46, code)], (wl, out31, out33, z, out46, code), 1) u := hin
   have hpu : u.2 = 0 → s.1 < u.1 := fun h => by
    have h0 : t.2 = 0 := Classical.byContradiction fun h0 => by
     have e : insS ls t = (t, none) := by
      unfold insS
      rw [nextS_err h0]
      dsimp only
      rw [if_neg (by decide), show ([[]] : List (List UInt8)).headD [] = [] from rfl, opF_nil]
      dsimp only
      rw [failS_err h0]
     rw [e] at hu
     injection hu with hu1 _
     rw [← hu1] at h; exact h0 h
    have h1 := hpt h0
    have h2 : t.1 ≤ u.1 := by
     unfold insS at hu
     dsimp only at hu
     have ha := nextS_at ls t
     generalize nextS ls t = N at hu ha
     split at hu
     ·injection hu with hu1 _
      rw [← hu1, numbersS_eq]
      have h1 : (if 0 ≤ (0 : Int) ∧ (N.1.tail.length : Int) ≠ 0 then failS 5 (badS N.1.tail N.2) else badS N.1.tail N.2).1 = t.1 := by rw [← ha]; split <;> exact badS_at _ _
      generalize (if 0 ≤ (0 : Int) ∧ (N.1.tail.length : Int) ≠ 0 then failS 5 (badS N.1.tail N.2) else badS N.1.tail N.2) = y at h1
      unfold doneS
      split
      ·dsimp only; omega
      ·omega
     ·split at hu
      ·injection hu with hu1 _
       rw [← hu1]; show t.1 ≤ N.2.1; omega
      ·rename_i op _
       split at hu
       ·injection hu with hu1 _
        rw [← hu1, numbersS_eq]
        have h1 : (if 0 ≤ ((placesOf op).length : Int) ∧ (N.1.tail.length : Int) ≠ (placesOf op).length then failS 5 (badS N.1.tail N.2) else badS N.1.tail N.2).1 = t.1 := by rw [← ha]; split <;> exact badS_at _ _
        generalize (if 0 ≤ ((placesOf op).length : Int) ∧ (N.1.tail.length : Int) ≠ (placesOf op).length then failS 5 (badS N.1.tail N.2) else badS N.1.tail N.2) = y at h1
        unfold doneS
        split
        ·dsimp only; omega
        ·omega
       ·injection hu with _ hu2; cases hu2
    omega
   rw [show (none : Option Ins).isSome = false from rfl]
   refine g_mv ?_
   refine g_pure (p_extract rfl rfl) rfl ?_
   refine g_pure (p_extract rfl rfl) rfl ?_
   refine g_eff (e_alloc (by rfl)) rfl (fun _ _ => ?_)
   rintro ⟨b7, rfl, rfl⟩
   first | refine g_eff0 (e_storeO rfl rfl (by rfl) (by rfl) (by rfl) (by repeat' (first | exact Take.here | apply Take.there)) (by rfl)) (fun _ _ => ?_) | refine g_eff0 (e_storeN rfl rfl (by rfl) (by rfl) (by rfl) (by repeat' (first | exact Take.here | apply Take.there)) (by simp)) (fun _ _ => ?_)
   rintro rfl
   refine g_as ?_
   refine g_nil <| g_qt <| g_seq <| g_seq <| g_region ?_
   refine g_mv ?_
   refine g_pure (p_not rfl) rfl ?_
   refine g_nil <| g_qt ?_
   refine g_ift rfl ?_
   refine g_seq <| g_region ?_
   first | refine g_pure (p_loadO (by rfl) rfl (by first | (apply Has.own; (repeat' (first | exact Take.here | apply Take.there)); done) | exact Has.ro (by assumption)) (by rfl)) rfl ?_ | refine g_pure (p_loadN (by rfl) rfl (by first | (apply Has.own; (repeat' (first | exact Take.here | apply Take.there)); done) | exact Has.ro (by assumption)) (by first | rfl | assumption)) rfl ?_
   first | refine g_eff0 (e_storeO rfl rfl (by rfl) (by rfl) (by rfl) (by repeat' (first | exact Take.here | apply Take.there)) (by rfl)) (fun _ _ => ?_) | refine g_eff0 (e_storeN rfl rfl (by rfl) (by rfl) (by rfl) (by repeat' (first | exact Take.here | apply Take.there)) (by simp)) (fun _ _ => ?_)
   rintro rfl
   refine g_nil <| g_qt <| g_ret <| g_qt_ret <| g_qb_ret <| g_qn_ret <| g_qb_ret ?_
   refine g_emp al_nil ?_
   refine g_alpush (X := OwnSl 3 1 a31 out31.length c31 (out31.map encI)) (by repeat' (first | exact Take.here | apply Take.there)) (by repeat' (first | exact Take.here | apply Take.there)) ?_
   refine g_alpush (X := OwnSl 3 1 a33 out33.length c33 (out33.map encI)) (by repeat' (first | exact Take.here | apply Take.there)) (by repeat' (first | exact Take.here | apply Take.there)) ?_
   refine g_alpush (X := OwnSl 3 1 a46 out46.length c46 (out46.map encI)) (by repeat' (first | exact Take.here | apply Take.there)) (by repeat' (first | exact Take.here | apply Take.there)) ?_
   refine g_alpush (X := OwnSl 32 5 ca code.length cc (code.flatMap encIns)) (by repeat' (first | exact Take.here | apply Take.there)) (by repeat' (first | exact Take.here | apply Take.there)) ?_
   exact g_postA (Ho := [fragP 3 32 (((a31, c31), (a33, c33), (a46, c46), (ca, cc)), (wl, out31, out33, z, out46, code)), RD u]) (rs := [.cell 2 45]) rfl (Res.cellN (by rfl) rfl (Has.own (by repeat' (first | exact Take.here | apply Take.there))) (by rfl) .nil) ⟨((a31, c31), (a33, c33), (a46, c46), (ca, cc)), (wl, out31, out33, z, out46, code), u, rfl, rfl, hIe, hpu⟩
  ·obtain ⟨q1, q2, q3⟩ := hin
   have hij' := hij j rfl
   subst hij'
   rw [show (some i).isSome = true from rfl]
   refine g_mv ?_
   refine g_pure (p_extract rfl rfl) rfl ?_
   refine g_pure (p_extract rfl rfl) rfl ?_
   refine g_eff (e_alloc (by rfl)) rfl (fun _ _ => ?_)
   rintro ⟨b7, rfl, rfl⟩
   first | refine g_eff0 (e_storeO rfl rfl (by rfl) (by rfl) (by rfl) (by repeat' (first | exact Take.here | apply Take.there)) (by rfl)) (fun _ _ => ?_) | refine g_eff0 (e_storeN rfl rfl (by rfl) (by rfl) (by rfl) (by repeat' (first | exact Take.here | apply Take.there)) (by simp)) (fun _ _ => ?_)
   rintro rfl
   refine g_as ?_
   refine g_nil <| g_qt <| g_seq <| g_seq <| g_region ?_
   refine g_mv ?_
   refine g_pure (p_not rfl) rfl ?_
   refine g_nil <| g_qt ?_
   refine g_iff rfl ?_
   refine g_skip <| g_qt <| g_region ?_
   refine g_fa ?_
   refine g_ld ?_
   first | refine g_pure (p_loadO (by rfl) rfl (by first | (apply Has.own; (repeat' (first | exact Take.here | apply Take.there)); done) | exact Has.ro (by assumption)) (by rfl)) rfl ?_ | refine g_pure (p_loadN (by rfl) rfl (by first | (apply Has.own; (repeat' (first | exact Take.here | apply Take.there)); done) | exact Has.ro (by assumption)) (by first | rfl | assumption)) rfl ?_
   refine g_eff (e_bs (xs := [.tmp 58]) rfl rfl rfl (by rfl) (by rfl) rfl (by rfl)) rfl (fun _ _ => ?_)
   rintro ⟨b59, rfl, rfl⟩
   refine g_eff (e_appendO (by rfl) (by rfl) rfl rfl (by first | (apply Has.own; (repeat' (first | exact Take.here | apply Take.there)); done) | exact Has.ro (by assumption)) (by rfl) (by rfl) (by repeat' (first | exact Take.here | apply Take.there)) (by omega) (by first | omega | (dsimp only; omega) | (simp <;> omega)) (by omega)) rfl (fun _ _ => ?_)
   rintro ⟨a60, c60, rfl, rfl⟩
   refine g_fa ?_
   first | refine g_eff0 (e_storeO rfl rfl (by rfl) (by rfl) (by rfl) (by repeat' (first | exact Take.here | apply Take.there)) (by rfl)) (fun _ _ => ?_) | refine g_eff0 (e_store1 (by rfl) rfl rfl rfl (by repeat' (first | exact Take.here | apply Take.there)) (by first | decide | (simp <;> omega) | omega)) (fun _ _ => ?_)
   rintro rfl
   refine g_nil <| g_qb <| g_qn ?_
   rw [show code.flatMap encIns ++ [Value.int IntKind.i64 i.1, .int .i64 i.2.1, .int .i64 i.2.2.1, .int .i64 i.2.2.2.1, .int .i64 i.2.2.2.2] = (code ++ [i]).flatMap encIns by simp [encIns], show code.length + 1 = (code ++ [i]).length by simp]
   have ht0 : t.2 = 0 := Classical.byContradiction fun h0 => by
    have e : insS ls t = (t, none) := by
     unfold insS
     rw [nextS_err h0]
     dsimp only
     rw [if_neg (by decide), show ([[]] : List (List UInt8)).headD [] = [] from rfl, opF_nil]
     dsimp only
     rw [failS_err h0]
    rw [e] at hu
    injection hu with _ hu2
    cases hu2
   have hpt2 := hpt ht0
   exact g_nextA (code ++ [i], a60, c60, u) ⟨q3, by dsimp only; rw [List.length_append, List.length_singleton]; omega, fun _ => by dsimp only; omega⟩ (by dsimp only; omega)
theorem routG_ok {ρ : Nat → Obj → Prop} (hk : LibA ρ) {lb : Nat} {ls : List (List UInt8)} (hL : Lns ρ lb ls) (hsm : ls.length ≤ 4194305) (p : Nat) (s : RS) {R : Res'} {q : PS} (hI : Inv ls R q s) (hw : q.2.2.2 = 1) (hm : moreS ls s = true) :
  Con Tryz.prog ρ 52 #[.pointer (some ⟨p, 0, none⟩)] [Rd 73 p lb ls.length s]
  (fun v H => ∃ (h : Hd) (x : Rt) (s' : RS), v = .agg #[.string (strB x.1), .slice h.1.1 x.2.1.length h.1.2, .slice h.2.1.1 x.2.2.1.length h.2.1.2, .int .i64 x.2.2.2.1, .slice h.2.2.1.1 x.2.2.2.2.1.length h.2.2.1.2, .slice h.2.2.2.1 x.2.2.2.2.2.length h.2.2.2.2] ∧ H = [fragP 3 32 (h, x), Rd 73 p lb ls.length s'] ∧ Inv ls R (q.1, q.2.1 ++ [x], x, 1) s' ∧ (s'.2 = 0 → s.1 < s'.1)) := routG_gen rfl hk hL hsm s hI hw hm
end Go.Proofs.YtcnfcoojmbjdlaaGreatDoor
/- Chapter 26, plain: what was read is of a size and has numbers as a text has them. Conditions: none. -/
namespace Go.Z.Asm
set_option maxRecDepth 8000
set_option linter.unusedVariables false
set_option linter.unusedSimpArgs false
set_option linter.unusedSectionVars false
open Go Go.Z Go.Lib Go.Z.Txt Go.Z.Val

structure NumOk (r : Rt) : Prop where
 il : ∀ n ∈ r.2.1, okI n
 ol : ∀ n ∈ r.2.2.1, okI n
 rl : okI r.2.2.2.1
 zl : ∀ n ∈ r.2.2.2.2.1, okI n
 cl : ∀ i ∈ r.2.2.2.2.2, okI i.1 ∧ okI i.2.1 ∧ okI i.2.2.1 ∧ okI i.2.2.2.1 ∧ okI i.2.2.2.2
def OkP (p : PS) : Prop := (∀ n ∈ p.1, okI n) ∧ (∀ r ∈ p.2.1, NumOk r) ∧ NumOk p.2.2.1
theorem fillC_ok (ps : List Nat) (v : List Int) (h : ∀ n ∈ v, okI n) : ∀ n ∈ fillC ps v, okI n := by
 unfold fillC
 suffices H : ∀ (l : List (Nat × Int)) (f : List Int), (∀ q ∈ l, okI q.2) → (∀ n ∈ f, okI n) → ∀ n ∈ l.foldl (fun f q => f.set q.1 q.2) f, okI n by
  refine H _ _ (fun q hq => h _ (List.of_mem_zip hq).2) (fun n hn => ?_)
  have : n = 0 := by simpa using hn
  subst this; exact ⟨by decide, by decide⟩
 intro l
 induction l with
 | nil => intro f _ hf; exact hf
 | cons a l ih =>
  intro f hl hf
  refine ih _ (fun q hq => hl q (List.mem_cons_of_mem _ hq)) (fun n hn => ?_)
  rcases List.mem_or_eq_of_mem_set hn with h1 | h1
  ·exact hf n h1
  ·rw [h1]; exact hl a List.mem_cons_self
theorem getD_ok {l : List Int} (h : ∀ n ∈ l, okI n) (k : Nat) : okI (l.getD k 0) := by
 rw [List.getD_eq_getElem?_getD]
 cases e : l[k]? with
 | none => exact ⟨by decide, by decide⟩
 | some x => exact h x (List.mem_of_getElem? e)
theorem insV_ok {W : List (List UInt8)} {i : Ins} (h : insV W = some i) : okI i.1 ∧ okI i.2.1 ∧ okI i.2.2.1 ∧ okI i.2.2.2.1 ∧ okI i.2.2.2.2 := by
 unfold insV at h
 cases e1 : opF (W.headD []) with
 | none => rw [e1] at h; cases h
 | some op =>
  rw [e1] at h
  dsimp only at h
  cases e2 : numsO W.tail with
  | none => rw [e2] at h; cases h
  | some v =>
   rw [e2] at h
   dsimp only at h
   split at h
   ·injection h with h
    subst h
    obtain ⟨n1, n2, n3⟩ := opF_some e1
    have hf := fillC_ok (placesOf op) v (nums_some e2).2
    exact ⟨by unfold okI mkIns; dsimp only; omega, getD_ok hf 0, getD_ok hf 1, getD_ok hf 2, getD_ok hf 3⟩
   ·cases h
theorem emptyRt_ok : NumOk emptyRt := ⟨fun n h => absurd h List.not_mem_nil, fun n h => absurd h List.not_mem_nil, ⟨by decide, by decide⟩, fun n h => absurd h List.not_mem_nil, fun n h => absurd h List.not_mem_nil⟩
theorem step_ok {p q : PS} {W : List (List UInt8)} (hp : OkP p) (h : stepL p W = some q) : OkP q := by
 obtain ⟨es, done, cur, w⟩ := p
 obtain ⟨h1, h2, h3⟩ := hp
 dsimp only at h1 h2 h3
 obtain ⟨c1, c2, c3, c4, c5⟩ := id h3
 unfold stepL at h
 dsimp only at h
 split at h
 ·cases h
 ·split at h
  ·split at h
   ·split at h
    ·injection h with h
     subst h
     refine ⟨h1, fun r hr => ?_, h3⟩
     rcases List.mem_append.1 hr with hr | hr
     ·exact h2 r hr
     ·rw [List.mem_singleton.1 hr]; exact h3
    ·cases h
   ·cases e : insV W with
    | none => rw [e] at h; cases h
    | some i =>
     rw [e] at h
     injection h with h
     subst h
     refine ⟨h1, h2, ⟨c1, c2, c3, c4, fun j hj => ?_⟩⟩
     rcases List.mem_append.1 hj with hj | hj
     ·exact c5 j hj
     ·rw [List.mem_singleton.1 hj]; exact insV_ok e
  ·split at h
   ·cases h
   ·split at h
    ·split at h
     ·injection h with h
      subst h
      exact ⟨h1, h2, ⟨emptyRt_ok.il, emptyRt_ok.ol, emptyRt_ok.rl, emptyRt_ok.zl, emptyRt_ok.cl⟩⟩
     ·cases h
    ·cases e : numsO W.tail with
     | none => rw [e] at h; cases h
     | some v =>
      rw [e] at h
      dsimp only at h
      split at h
      ·cases h
      ·injection h with h
       subst h
       have hv := (nums_some e).2
       unfold putW
       dsimp only
       split
       ·exact ⟨hv, h2, h3⟩
       ·refine ⟨h1, h2, ?_⟩
        dsimp only
        split
        ·exact ⟨hv, c2, c3, c4, c5⟩
        ·split
         ·exact ⟨c1, hv, c3, c4, c5⟩
         ·split
          ·refine ⟨c1, c2, ?_, c4, c5⟩
           have := getD_ok hv 0
           have e : v.headD 0 = v.getD 0 0 := by cases v <;> rfl
           dsimp only
           rw [e]; exact this
          ·exact ⟨c1, c2, c3, hv, c5⟩
theorem read_ok : ∀ (ls : List (List UInt8)) (p : PS) (n : Nat) (im : Im), OkP p → readL p ls n = .ok im → (∀ n ∈ im.1, okI n) ∧ ∀ r ∈ im.2, NumOk r
 | [], p, n, im, _, h => by cases h
 | [l], p, n, im, hp, h => by
  rw [readL_one] at h
  split at h
  ·injection h with h
   subst h
   exact ⟨hp.1, hp.2.1⟩
  ·cases h
 | l :: m :: r, p, n, im, hp, h => by
  rw [readL_cons] at h
  cases e : stepL p (pieces 32 l) with
  | none => rw [e] at h; cases h
  | some q =>
   rw [e] at h
   exact read_ok (m :: r) q (n + 1) im (step_ok hp e) h
theorem lineP_ge (w : List UInt8) (l : List Int) : w.length + l.length + 1 ≤ (lineP w l).length := by
 unfold lineP
 rw [List.length_append, List.length_append, List.length_singleton]
 have : l.length ≤ ((l.map fun n => 32 :: itoa n).flatten).length := by
  induction l with
  | nil => exact Nat.le_refl 0
  | cons n l ih => rw [List.map_cons, List.flatten_cons, List.length_append, List.length_cons, List.length_cons]; omega
 omega
theorem flat_ge {α : Type} (f : α → List UInt8) : ∀ (l : List α), (∀ x ∈ l, 1 ≤ (f x).length) → l.length ≤ ((l.map f).flatten).length ∧ ∀ x ∈ l, (f x).length ≤ ((l.map f).flatten).length
 | [], _ => ⟨Nat.le_refl 0, fun x h => absurd h List.not_mem_nil⟩
 | a :: l, h => by
  obtain ⟨h1, h2⟩ := flat_ge f l (fun x hx => h x (List.mem_cons_of_mem _ hx))
  have h3 := h a List.mem_cons_self
  rw [List.map_cons, List.flatten_cons, List.length_append, List.length_cons]
  refine ⟨by omega, fun x hx => ?_⟩
  rcases List.mem_cons.1 hx with hx | hx
  ·rw [hx]; omega
  ·have := h2 x hx; omega
theorem rtT_ge (r : Rt) : r.1.length + r.2.1.length + r.2.2.1.length + r.2.2.2.2.1.length + r.2.2.2.2.2.length + 1 ≤ (rtT r).length := by
 unfold rtT
 simp only [List.length_append]
 have h1 := lineP_ge ([114, 111, 117, 116, 105, 110, 101, 32] ++ r.1) []
 have h2 := lineP_ge [105, 110] r.2.1
 have h3 := lineP_ge [111, 117, 116] r.2.2.1
 have h4 := lineP_ge [105, 110, 105, 116] r.2.2.2.2.1
 have h5 := (flat_ge insT r.2.2.2.2.2 (fun i _ => by have := lineP_ge (opRow i.1).1 (usedP i); unfold insT; omega)).1
 simp only [List.length_append, List.length_cons, List.length_nil] at h1 h2 h3 h4
 omega
theorem okI_64 {n : Int} (h : okI n) : I64 n := by
 obtain ⟨h1, h2⟩ := h
 exact ⟨by omega, by omega⟩
theorem read_bounds {s : List UInt8} {im : Im} (h : parseR s = .ok im) (hs : s.length ≤ 4194304) : im.1.length ≤ 17592186044416 ∧ im.2.length ≤ 17592186044416 ∧ (∀ v ∈ im.1, I64 v) ∧ ∀ x ∈ im.2, RtOk x := by
 have ht := parse_back h
 obtain ⟨k1, k2⟩ := read_ok (pieces 10 s) startP 0 im ⟨fun n h => absurd h List.not_mem_nil, fun r h => absurd h List.not_mem_nil, emptyRt_ok⟩ h
 have hl : (textP im).length ≤ 4194304 := by rw [ht]; exact hs
 unfold textP at hl
 rw [List.length_append] at hl
 have h1 := lineP_ge [101, 110, 117, 109, 115] im.1
 obtain ⟨h2, h3⟩ := flat_ge rtT im.2 (fun r _ => by have := rtT_ge r; omega)
 simp only [List.length_cons, List.length_nil] at h1
 refine ⟨by omega, by omega, fun v hv => okI_64 (k1 v hv), fun x hx => ?_⟩
 have h4 := h3 x hx
 have h5 := rtT_ge x
 obtain ⟨c1, c2, c3, c4, c5⟩ := k2 x hx
 exact ⟨by omega, by omega, by omega, by omega, by omega, fun v hv => okI_64 (c1 v hv), fun v hv => okI_64 (c2 v hv), okI_64 c3, fun v hv => okI_64 (c4 v hv), fun i hi => by
  obtain ⟨d1, d2, d3, d4, d5⟩ := c5 i hi
  exact ⟨okI_64 d1, okI_64 d2, okI_64 d3, okI_64 d4, okI_64 d5⟩⟩
/-- what the program answers to a text -/
def outP (R : Res') : Im × Int × Int := match R with
 | .error e => (([], []), e.1, e.2)
 | .ok im => if checkP im = 0 then (im, 0, 0) else (([], []), 0, checkP im)
end Go.Z.Asm
/- Chapter 26: a text read. Conditions: what the library's variables hold (LibA). -/
namespace Go.Z.Asm
set_option maxRecDepth 8000
set_option linter.unusedVariables false
set_option linter.unusedSimpArgs false
set_option linter.unusedSectionVars false
open Go Go.Z Go.Lib Go.Z.Txt
theorem own_empty (TI TC TR : TypeId) : OwnIm TI TC TR none none 0 0 ([], []) (fun _ => none) := by
 refine ⟨_, ⟨[], rfl, rfl⟩, ?_⟩
 have e : ∀ (T : TypeId) (n : Nat), OwnSl T n none 0 0 [] (fun _ => none) := fun T n => ⟨by simp, .inl ⟨rfl, rfl, rfl, rfl⟩⟩
 have hj : join (fun _ : Nat => (none : Option Obj)) (fun _ => none) = fun _ => none := by funext c; rfl
 have hd : Disj (fun _ : Nat => (none : Option Obj)) (fun _ => none) := fun c => .inl rfl
 have s0 : Sat [] (fun _ => none) := rfl
 have s1 : Sat [Al (List.map (fragP TI TC) [])] (fun _ => none) := ⟨_, _, al_nil, s0, hd, hj.symm⟩
 have s2 : Sat [OwnSl TR 6 none 0 0 [], Al (List.map (fragP TI TC) [])] (fun _ => none) := ⟨_, _, e TR 6, s1, hd, hj.symm⟩
 exact ⟨_, _, e TI 1, s2, hd, hj.symm⟩
end Go.Z.Asm
namespace Go.Proofs.YtcnfcoojmbjdlaaGreatDoor
set_option maxRecDepth 8000
set_option linter.unusedVariables false
set_option linter.unusedSimpArgs false
set_option linter.unusedSectionVars false
open Go Go.Z Go.Z.Asm Go.RowKit Go.Z.Txt

theorem parseA_ok {ρ : Nat → Obj → Prop} (hk : LibA ρ) (s : List UInt8) (hs : s.length ≤ 4194304) {o : Im × Int × Int} (ho : outP (parseR s) = o) :
  Con Tryz.prog ρ 25 #[.string (strB s)] [] (fun v H => ∃ ea ec ra rc, v = .tuple #[.agg #[.slice ea o.1.1.length ec, .slice ra o.1.2.length rc], .int .i64 o.2.1, .int .i64 o.2.2] ∧ H = [OwnIm 3 32 45 ea ra ec rc o.1]) := by
 have hsz : (strB s).size = s.length := rfl
 have hpl := pieces_le 10 s
 have hp0 := pieces_ne 10 s
 have hpm : ∀ l ∈ pieces 10 s, l.length < 4294967281 := fun l hl => Nat.lt_of_le_of_lt (pieces_mem hl).2 (by omega)
 obtain ⟨R, hR⟩ : ∃ R, parseR s = R := ⟨_, rfl⟩
 have hbd := fun im (h : R = .ok im) => read_bounds (hR.trans h) hs
 have hR0 : R = readL startP (pieces 10 s) 0 := hR.symm
 rw [hR] at ho
 generalize hls : pieces 10 s = ls at hpl hp0 hpm hR0
 have hpos : 0 < ls.length := List.length_pos_iff.2 hp0
 have hI0 : Inv ls R startP (0, 0) := ⟨hpos, fun _ => hR0, fun h => absurd rfl h⟩
 have hI1 := fun v => inv_list (w := 0) (v := v) hI0 rfl (by decide) (by decide)
 have hl1 : (listS ls enumW (-1) (0, 0)).1 < ls.length := listS_lt enumW (-1) hpos
 have mkL : ∀ {ρ' : Nat → Obj → Prop} {lb : Nat}, ρ' lb (.cells (ls.map strV).toArray 9 (0, 0)) → Lns ρ' lb ls := fun h => ⟨⟨_, _, h⟩, hpos, by omega, hpm⟩
 refine con_intro Tryz.func25 Tryz.call25 rfl Tryz.ntmps25 rfl (L := [(0, _)]) rfl fun w hh => ?_
 refine g_seq <| g_region ?_
 refine g_eff (e_alloc (by rfl)) rfl (fun _ _ => ?_)
 rintro ⟨b2, rfl, rfl⟩
 refine g_as ?_
 refine g_as ?_
 refine g_nil <| g_qt <| g_seq <| g_seq <| g_region ?_
 refine g_mv ?_
 refine g_pure (p_lens (by rfl) rfl) rfl ?_
 refine g_pure (p_gtr rfl rfl) rfl ?_
 refine g_nil <| g_qt ?_
 refine g_ifd rfl (fun q0 => ?_) (fun q0 => ?_)
 ·exfalso; omega
 ·refine g_skip <| g_qt <| g_seq <| g_region ?_
  refine g_mv ?_
  refine g_call (Hin := []) (Hr := ?hr1) (R := ?rr1) rfl rfl rfl ?hin1 ?hc1 ?hk1
  case hin1 => repeat' (first | exact Cover.nil | exact Take.here | apply Cover.cons | apply Take.there)
  case hc1 => intro ρ' hρ hR; exact split_ok (hk.mono hρ) s 10 (by omega)
  rintro _ _ ⟨lb, rfl, rfl⟩
  rw [hls]
  refine g_pure (p_build (by rfl) rfl (by rfl)) rfl ?_
  refine g_eff (e_box rfl (by rfl)) rfl (fun _ _ => ?_)
  rintro ⟨b15, rfl, rfl⟩
  refine g_as ?_
  refine g_nil <| g_qt <| g_seq <| g_region ?_
  refine g_mv ?_
  rw [show Blk b15 (.cells [.slice (some ⟨lb, 0, none⟩) ls.length ls.length, .int .i64 0, .int .i64 0].toArray 73 (0, 0)) = Rd 73 b15 lb ls.length (0, 0) from rfl]
  refine g_call (Hin := [Rd 73 b15 lb ls.length (0, 0)]) (Hr := ?hr2) (R := ?rr2) rfl rfl rfl ?hin2 ?hc2 ?hk2
  case hin2 => repeat' (first | exact Cover.nil | exact Take.here | apply Cover.cons | apply Take.there)
  case hc2 => intro ρ' hρ hR; exact list_ok (hk.mono hρ) (mkL (Take.ro (A := Blk lb (.cells (ls.map strV).toArray 9 (0, 0))) (by repeat' (first | exact Take.here | apply Take.there)) hR).blk) b15 (0, 0) hpos enumW (-1)
  rintro _ _ ⟨a17, c17, out17, rfl, hn17, hv17, rfl⟩
  refine g_pure (p_build (by rfl) rfl (by rfl)) rfl ?_
  refine g_eff (e_alloc (by rfl)) rfl (fun _ _ => ?_)
  rintro ⟨b6, rfl, rfl⟩
  first | refine g_eff0 (e_storeO rfl rfl (by rfl) (by rfl) (by rfl) (by repeat' (first | exact Take.here | apply Take.there)) (by rfl)) (fun _ _ => ?_) | refine g_eff0 (e_storeN rfl rfl (by rfl) (by rfl) (by rfl) (by repeat' (first | exact Take.here | apply Take.there)) (by simp)) (fun _ _ => ?_)
  rintro rfl
  refine g_nil <| g_qt <| g_seq <| g_block ?_
  have hI2 : Inv ls R (out17, [], emptyRt, 1) (listS ls enumW (-1) (0, 0)) := hI1 out17 hv17
  generalize listS ls enumW (-1) (0, 0) = s1 at hI2 hl1 ⊢
  refine g_ownnil (e := 45) (size := 6) ?_
  refine g_emp (A := Al (List.map (fragP 3 32) [])) al_nil ?_
  refine g_loop (fun _ : List (Hd × Rt) × (Option Addr × Nat) × Rt × RS => [(2, .pointer (some ⟨b2, 0, none⟩)), (5, .pointer (some ⟨b15, 0, none⟩)), (6, .pointer (some ⟨b6, 0, none⟩))])
   (fun y => [OwnSl 45 6 y.2.1.1 y.1.length y.2.1.2 (y.1.flatMap rowO), Al (y.1.map (fragP 3 32)), Blk b6 (.cells [.slice a17 out17.length c17, .slice y.2.1.1 y.1.length y.2.1.2].toArray 25 (0, 0)), OwnSl 3 1 a17 out17.length c17 (out17.map encI), Rd 73 b15 lb ls.length y.2.2.2, Blk lb (.cells (ls.map strV).toArray 9 (0, 0)), Blk b2 (.cells [.slice none 0 0, .slice none 0 0].toArray 25 (0, 0))])
   (fun y => Inv ls R (out17, y.1.map (·.2), y.2.2.1, 1) y.2.2.2 ∧ (y.2.2.2.2 = 0 → y.1.length ≤ y.2.2.2.1)) (fun y => if y.2.2.2.2 = 0 then ls.length + 1 - y.2.2.2.1 else 0) ([], (none, 0), emptyRt, s1) ⟨hI2, fun _ => Nat.zero_le _⟩ (by (repeat (first | exact trivial | refine ⟨by rfl, ?_⟩)); done) (by repeat' (first | exact Cover.nil | exact Take.here | apply Cover.cons | apply Take.there)) ?_
  rintro ⟨P, ⟨ra, rc⟩, cur, t⟩ ⟨hIt, hPt⟩
  dsimp only at hIt hPt ⊢
  have htl := hIt.1
  refine g_seq <| g_seq <| g_region ?_
  refine g_mv ?_
  refine g_call (Hin := [Rd 73 b15 lb ls.length t]) (Hr := ?hr3) (R := ?rr3) rfl rfl rfl ?hin3 ?hc3 ?hk3
  case hin3 => repeat' (first | exact Cover.nil | exact Take.here | apply Cover.cons | apply Take.there)
  case hc3 => intro ρ' hρ hR; exact more_ok (mkL (Take.ro (A := Blk lb (.cells (ls.map strV).toArray 9 (0, 0))) (by repeat' (first | exact Take.here | apply Take.there)) hR).blk) b15 t htl
  rintro _ _ ⟨rfl, rfl⟩
  refine g_nil <| g_qt ?_
  cases hm : moreS ls t
  ·have hstop := inv_stop hIt rfl hm
   refine g_iff rfl ?_
   refine g_exit <| g_qt_exit <| g_qn_exit <| g_qb_exit <| g_qt <| g_seq <| g_seq <| g_region ?_
   refine g_mv ?_
   refine g_pure (p_nilCheck rfl) rfl ?_
   refine g_fa ?_
   refine g_ld ?_
   refine g_pure (p_neq rfl rfl) rfl ?_
   refine g_nil <| g_qt ?_
   obtain ⟨at2, e2⟩ := t
   dsimp only at hstop
   unfold Rd
   dsimp only
   refine g_ifnd rfl (fun q1 => ?_) (fun q1 => ?_)
   ·rw [if_neg q1] at hstop
    have ho' : o = (([], []), (at2 : Int) + 1, e2) := by rw [← ho, hstop]; rfl
    subst ho'
    refine g_seq ?_
    refine m_begin0 (.fl 0 0 (.fl 1 0 (.fl 2 0 (.fl 3 0 (.fl 4 1 (.fl 5 0 (.fl 6 0 (.fl 7 0 (.fl 8 0 (.fl 9 1 (.ef 10 (.fl 11 0 (.fl 12 0 .done))))))))))))) (by kernel_rfl) (by kernel_rfl) ?_
    refine m_float0 rfl (fun _ _ => p_build (by rfl) rfl (by rfl)) rfl ?_
    refine m_float0 rfl (fun _ _ => p_move rfl) rfl ?_
    refine m_float0 rfl (fun _ _ => p_nilCheck rfl) rfl ?_
    refine m_float0 rfl (fun _ _ => p_fieldAddr rfl) rfl ?_
    refine m_float rfl (p_loadA) rfl ?_
    first | refine m_float0 rfl (fun _ _ => p_addi rfl rfl (by omega)) rfl ?_ | refine m_float0 rfl (fun _ _ => p_add rfl rfl) rfl ?_
    refine m_float0 rfl (fun _ _ => p_move rfl) rfl ?_
    refine m_float0 rfl (fun _ _ => p_nilCheck rfl) rfl ?_
    refine m_float0 rfl (fun _ _ => p_fieldAddr rfl) rfl ?_
    refine m_float rfl (p_loadA) rfl ?_
    first | refine m_eff0 rfl (e_storeO rfl rfl (by rfl) (by rfl) (by rfl) (by repeat' (first | exact Take.here | apply Take.there)) (by rfl)) (fun _ _ => ?_) | refine m_eff0 rfl (e_storeN rfl rfl (by rfl) (by rfl) (by rfl) (by repeat' (first | exact Take.here | apply Take.there)) (by simp)) (fun _ _ => ?_)
    rintro rfl
    refine ⟨.some (by repeat' (first | exact Cover.nil | exact Take.here | apply Cover.cons | apply Take.there)), ?_⟩
    refine m_float0 rfl (fun _ _ => p_assign rfl) rfl ?_
    refine m_float0 rfl (fun _ _ => p_assign rfl) rfl ?_
    refine m_nil ?_
    refine g_qt <| g_ret <| g_qt_ret ?_
    refine g_emp (own_empty 3 32 45) ?_
    exact g_postA (rs := [.cell 2 25, .tmp 3, .tmp 4]) rfl (Res.cellN (by rfl) rfl (Has.own (by repeat' (first | exact Take.here | apply Take.there))) (by rfl) (.tmp rfl (.tmp rfl .nil))) ⟨none, 0, none, 0, rfl, rfl⟩
   ·have q1' : e2 = 0 := q1
    rw [if_pos q1'] at hstop
    obtain ⟨im, him⟩ : ∃ im : Im, im = (out17, P.map (·.2)) := ⟨_, rfl⟩
    have hRo : R = .ok im := by rw [hstop, him]
    obtain ⟨m1, m2, m3, m4⟩ := hbd im hRo
    have hPl : P.length = im.2.length := by rw [him]; exact (List.length_map ..).symm
    have hOl : out17 = im.1 := by rw [him]
    have ho' : o = if checkP im = 0 then (im, 0, 0) else (([], []), 0, checkP im) := by rw [← ho, hRo]; rfl
    rw [hPl, hOl]
    refine g_close (K := OwnImK 3 32 45 a17 ra c17 rc im) (H1 := [OwnSl 3 1 a17 im.1.length c17 (im.1.map encI), OwnSl 45 6 ra im.2.length rc (P.flatMap rowO), Al (P.map (fragP 3 32))]) ⟨P, by rw [him], rfl⟩ (by repeat' (first | exact Cover.nil | exact Take.here | apply Cover.cons | apply Take.there)) ?_
    refine g_skip <| g_qt <| g_seq <| g_seq <| g_region ?_
    first | refine g_pure (p_loadO (by rfl) rfl (by first | (apply Has.own; (repeat' (first | exact Take.here | apply Take.there)); done) | exact Has.ro (by assumption)) (by rfl)) rfl ?_ | refine g_pure (p_loadN (by rfl) rfl (by first | (apply Has.own; (repeat' (first | exact Take.here | apply Take.there)); done) | exact Has.ro (by assumption)) (by first | rfl | assumption)) rfl ?_
    refine g_call (Hin := []) (Hr := ?hr4) (R := ?rr4) rfl rfl rfl ?hin4 ?hc4 ?hk4
    case hin4 => repeat' (first | exact Cover.nil | exact Take.here | apply Cover.cons | apply Take.there)
    case hc4 => intro ρ' hρ hR; exact checkA_ok (ec := c17) (rc := rc) (hk.mono hρ).ops (own_im (TI := 3) (TC := 32) (TR := 45) (ec := c17) (rc := rc) (Take.ro (A := Pk (OwnImK 3 32 45 a17 ra c17 rc im)) (by repeat' (first | exact Take.here | apply Take.there)) hR) m1 m2 m3 m4)
    rintro _ _ ⟨rfl, rfl⟩
    refine g_as ?_
    refine g_nil <| g_qt <| g_seq <| g_region ?_
    refine g_mv ?_
    refine g_pure (p_neq rfl rfl) rfl ?_
    refine g_nil <| g_qt ?_
    refine g_ifnd rfl (fun q2 => ?_) (fun q2 => ?_)
    ·rw [if_neg q2] at ho'
     subst ho'
     refine g_seq <| g_region ?_
     refine g_pure (p_build (by rfl) rfl (by rfl)) rfl ?_
     refine g_mv ?_
     first | refine g_eff0 (e_storeO rfl rfl (by rfl) (by rfl) (by rfl) (by repeat' (first | exact Take.here | apply Take.there)) (by rfl)) (fun _ _ => ?_) | refine g_eff0 (e_storeN rfl rfl (by rfl) (by rfl) (by rfl) (by repeat' (first | exact Take.here | apply Take.there)) (by simp)) (fun _ _ => ?_)
     rintro rfl
     refine g_as ?_
     refine g_as ?_
     refine g_nil <| g_qt <| g_ret <| g_qt_ret ?_
     refine g_emp (own_empty 3 32 45) ?_
     exact g_postA (rs := [.cell 2 25, .tmp 3, .tmp 4]) rfl (Res.cellN (by rfl) rfl (Has.own (by repeat' (first | exact Take.here | apply Take.there))) (by rfl) (.tmp rfl (.tmp rfl .nil))) ⟨none, 0, none, 0, rfl, rfl⟩
    ·rw [if_pos q2] at ho'
     subst ho'
     refine g_skip <| g_qt <| g_seq <| g_region ?_
     first | refine g_pure (p_loadO (by rfl) rfl (by first | (apply Has.own; (repeat' (first | exact Take.here | apply Take.there)); done) | exact Has.ro (by assumption)) (by rfl)) rfl ?_ | refine g_pure (p_loadN (by rfl) rfl (by first | (apply Has.own; (repeat' (first | exact Take.here | apply Take.there)); done) | exact Has.ro (by assumption)) (by first | rfl | assumption)) rfl ?_
     first | refine g_eff0 (e_storeO rfl rfl (by rfl) (by rfl) (by rfl) (by repeat' (first | exact Take.here | apply Take.there)) (by rfl)) (fun _ _ => ?_) | refine g_eff0 (e_storeN rfl rfl (by rfl) (by rfl) (by rfl) (by repeat' (first | exact Take.here | apply Take.there)) (by simp)) (fun _ _ => ?_)
     rintro rfl
     refine g_as ?_
     refine g_as ?_
     refine g_nil <| g_qt <| g_ret ?_
     exact g_postA (Ho := [OwnIm 3 32 45 a17 ra c17 rc im]) (rs := [.cell 2 25, .tmp 3, .tmp 4]) rfl (Res.cellN (by rfl) rfl (Has.own (by repeat' (first | exact Take.here | apply Take.there))) (by rfl) (.tmp rfl (.tmp rfl .nil))) ⟨a17, c17, ra, rc, rfl, rfl⟩
  ·have ht0 : t.2 = 0 := by unfold moreS at hm; rw [Bool.and_eq_true, decide_eq_true_eq] at hm; exact hm.1
   have hPt' := hPt ht0
   refine g_ift rfl ?_
   refine g_skip <| g_qt <| g_block ?_
   refine m_begin (.fl 0 0 (.fl 1 1 (.fl 2 0 (.ef 3 (.ef 4 (.ef 5 (.fl 6 0 (.ef 7 .done)))))))) [OwnSl 45 6 ra P.length rc (P.flatMap rowO), Al (P.map (fragP 3 32)), Blk b6 (.cells [.slice a17 out17.length c17, .slice ra P.length rc].toArray 25 (0, 0)), OwnSl 3 1 a17 out17.length c17 (out17.map encI), Blk lb (.cells (ls.map strV).toArray 9 (0, 0)), Blk b2 (.cells [.slice none 0 0, .slice none 0 0].toArray 25 (0, 0))] (by kernel_rfl) (by kernel_rfl) (by repeat' (first | exact Cover.nil | exact Take.here | apply Cover.cons | apply Take.there)) ?_
   refine m_float0 rfl (fun _ _ => p_fieldAddr rfl) rfl ?_
   refine m_float rfl (p_loadA) rfl ?_
   refine m_float0 rfl (fun _ _ => p_move rfl) rfl ?_
   refine m_call (Hin := [Rd 73 b15 lb ls.length t]) (Hr := ?hr5) (R := ?rr5) rfl wantedN rfl rfl rfl ?hin5 ?hc5 ?hk5
   case hin5 => repeat' (first | exact Cover.nil | exact Take.here | apply Cover.cons | apply Take.there)
   case hc5 => intro ρ' hρ hR; exact routG_ok (hk.mono hρ) (mkL (Take.ro (A := Blk lb (.cells (ls.map strV).toArray 9 (0, 0))) (by repeat' (first | exact Take.here | apply Take.there)) hR).blk) (by omega) b15 t hIt rfl hm
   rintro _ _ ⟨hd, x, t', rfl, rfl, hI', hp'⟩
   refine ⟨.some (by repeat' (first | exact Cover.nil | exact Take.here | apply Cover.cons | apply Take.there)), ?_⟩
   refine m_eff rfl (e_bs (xs := [.tmp 24]) rfl rfl rfl (by rfl) (by rfl) rfl (by rfl)) rfl (fun _ _ => ?_)
   rintro ⟨b25, rfl, rfl⟩
   refine ⟨.some (by repeat' (first | exact Cover.nil | exact Take.here | apply Cover.cons | apply Take.there)), ?_⟩
   refine m_eff rfl (e_appendO (by rfl) (by rfl) rfl rfl (by first | (apply Has.own; (repeat' (first | exact Take.here | apply Take.there)); done) | exact Has.ro (by assumption)) (by rfl) (by rfl) (by repeat' (first | exact Take.here | apply Take.there)) (by omega) (by first | omega | (dsimp only; omega) | (simp <;> omega)) (by omega)) rfl (fun _ _ => ?_)
   rintro ⟨a26, c26, rfl, rfl⟩
   refine ⟨.none (by kernel_rfl), ?_⟩
   refine m_float0 rfl (fun _ _ => p_fieldAddr rfl) rfl ?_
   first | refine m_eff0 rfl (e_storeO rfl rfl (by rfl) (by rfl) (by rfl) (by repeat' (first | exact Take.here | apply Take.there)) (by rfl)) (fun _ _ => ?_) | refine m_eff0 rfl (e_store1 (by rfl) rfl rfl rfl (by repeat' (first | exact Take.here | apply Take.there)) (by first | decide | (simp <;> omega) | omega)) (fun _ _ => ?_)
   rintro rfl
   refine ⟨.none (by kernel_rfl), ?_⟩
   refine m_nil ?_
   refine g_qb <| g_qn ?_
   refine g_alpush (l := P.map (fragP 3 32)) (X := fragP 3 32 (hd, x)) (by repeat' (first | exact Take.here | apply Take.there)) (by repeat' (first | exact Take.here | apply Take.there)) ?_
   have e1 : P.flatMap rowO ++ rowO (hd, x) = (P ++ [(hd, x)]).flatMap rowO := by simp
   have e2 : P.length + 1 = (P ++ [(hd, x)]).length := by simp
   have e3 : P.map (fragP 3 32) ++ [fragP 3 32 (hd, x)] = (P ++ [(hd, x)]).map (fragP 3 32) := by simp
   have e1' := e1
   unfold rowO at e1'
   rw [show [Value.string (strB x.1), .slice hd.1.1 x.2.1.length hd.1.2, .slice hd.2.1.1 x.2.2.1.length hd.2.1.2, .int .i64 x.2.2.2.1, .slice hd.2.2.1.1 x.2.2.2.2.1.length hd.2.2.1.2, .slice hd.2.2.2.1 x.2.2.2.2.2.length hd.2.2.2.2] = rowO (hd, x) from rfl, e1, e2, e3]
   exact g_nextA (P ++ [(hd, x)], (a26, c26), x, t') ⟨by dsimp only; rw [List.map_append]; exact hI', fun h => by dsimp only; have := hp' h; rw [List.length_append, List.length_singleton]; omega⟩ (by
    dsimp only
    rw [if_pos ht0]
    split
    ·rename_i h; have := hp' h; omega
    ·omega)
end Go.Proofs.YtcnfcoojmbjdlaaGreatDoor
/- Chapter 26: the document's check: form and ranges of an instruction. Conditions: none. -/
namespace Go.Z.Asm
set_option maxRecDepth 8000
set_option linter.unusedVariables false
set_option linter.unusedSimpArgs false
set_option linter.unusedSectionVars false
open Go Go.Z Go.Lib
theorem ranges_cases (rts : List Rt) (k : Nat) (x : Rt) (i : Ins) {y : Rt} (hy : calledP rts i.2.1 = y) {R : Bool} (hR : rangesR rts k x i = R) {g m : Int} (hg : x.2.2.2.1 = g) (hm : (x.2.2.2.2.1.length : Int) = m) :
  (i.1 = 1 → R = decide ((0 ≤ i.2.1 ∧ i.2.1 ≤ g ∧ 1 ≤ g - i.2.1) ∧ -32768 ≤ i.2.2.1 ∧ i.2.2.1 ≤ 32767)) ∧
  (i.1 = 2 ∨ i.1 = 5 → R = decide ((0 ≤ i.2.1 ∧ i.2.1 ≤ g ∧ 1 ≤ g - i.2.1) ∧ 0 ≤ i.2.2.1 ∧ i.2.2.1 ≤ g ∧ 1 ≤ g - i.2.2.1)) ∧
  (i.1 = 3 → R = decide ((0 ≤ i.2.1 ∧ i.2.1 ≤ g ∧ 1 ≤ g - i.2.1) ∧ 0 ≤ i.2.2.1 ∧ i.2.2.1 ≤ m ∧ 1 ≤ m - i.2.2.1)) ∧
  (i.1 = 4 → R = decide ((0 ≤ i.2.1 ∧ i.2.1 ≤ m ∧ 1 ≤ m - i.2.1) ∧ 0 ≤ i.2.2.1 ∧ i.2.2.1 ≤ g ∧ 1 ≤ g - i.2.2.1)) ∧
  (i.1 = 6 → R = decide ((0 ≤ i.2.1 ∧ i.2.1 ≤ g ∧ 1 ≤ g - i.2.1) ∧ (0 ≤ i.2.2.1 ∧ i.2.2.1 ≤ g ∧ 1 ≤ g - i.2.2.1) ∧ 0 ≤ i.2.2.2.1 ∧ i.2.2.2.1 ≤ g ∧ 1 ≤ g - i.2.2.2.1)) ∧
  (i.1 = 8 → R = decide (0 ≤ i.2.1 ∧ i.2.1 ≤ g ∧ 1 ≤ g - i.2.1)) ∧
  (i.1 = 9 → R = decide ((0 ≤ i.2.1 ∧ i.2.1 < k) ∧ (0 ≤ i.2.2.1 ∧ i.2.2.1 ≤ m ∧ (y.2.2.2.2.1.length : Int) ≤ m - i.2.2.1) ∧ (0 ≤ i.2.2.2.1 ∧ i.2.2.2.1 ≤ g ∧ (y.2.1.length : Int) ≤ g - i.2.2.2.1) ∧ 0 ≤ i.2.2.2.2 ∧ i.2.2.2.2 ≤ g ∧ (y.2.2.1.length : Int) ≤ g - i.2.2.2.2)) ∧
  (i.1 = 10 → R = decide ((0 ≤ i.2.1 ∧ i.2.1 < k) ∧ 0 ≤ i.2.2.1 ∧ i.2.2.1 ≤ m ∧ (y.2.2.2.2.1.length : Int) ≤ m - i.2.2.1)) ∧
  (¬ (1 ≤ i.1 ∧ i.1 ≤ 6) → ¬ (8 ≤ i.1 ∧ i.1 ≤ 10) → R = true) := by
 subst hg hm hR hy
 obtain ⟨op, A, B, C, D⟩ := i
 have hW : ∀ x n m : Int, (0 ≤ x ∧ x ≤ m ∧ n ≤ m - x) = withinP x n m := fun _ _ _ => rfl
 dsimp only
 refine ⟨?_, ?_, ?_, ?_, ?_, ?_, ?_, ?_, ?_⟩
 ·rintro rfl; rw [Bool.eq_iff_iff, decide_eq_true_eq]; simp only [hW]; simp [rangesR]
 ·rintro (rfl | rfl) <;> (rw [Bool.eq_iff_iff, decide_eq_true_eq]; simp only [hW]; simp [rangesR])
 ·rintro rfl; rw [Bool.eq_iff_iff, decide_eq_true_eq]; simp only [hW]; simp [rangesR]
 ·rintro rfl; rw [Bool.eq_iff_iff, decide_eq_true_eq]; simp only [hW]; simp [rangesR]
 ·rintro rfl; rw [Bool.eq_iff_iff, decide_eq_true_eq]; simp only [hW]; simp [rangesR]
 ·rintro rfl; rw [Bool.eq_iff_iff, decide_eq_true_eq]; simp only [hW]; simp [rangesR]
 ·rintro rfl; rw [Bool.eq_iff_iff, decide_eq_true_eq]; simp only [hW]; simp [rangesR]
 ·rintro rfl; rw [Bool.eq_iff_iff, decide_eq_true_eq]; simp only [hW]; simp [rangesR]
 ·intro h1 h2
  unfold rangesR
  dsimp only
  rw [if_neg (by omega), if_neg (by omega), if_neg (by omega), if_neg (by omega), if_neg (by omega), if_neg (by omega), if_neg (by omega)]
end Go.Z.Asm
namespace Go.Proofs.YtcnfcoojmbjdlaaGreatDoor
set_option maxRecDepth 8000
set_option linter.unusedVariables false
set_option linter.unusedSimpArgs false
set_option linter.unusedSectionVars false
open Go Go.Z Go.Z.Asm

theorem rwi_ok {ρ : Nat → Obj → Prop} (x n m : Int) (hm : I64 m) : Con Tryz.prog ρ 86 #[.int .i64 x, .int .i64 n, .int .i64 m] [] (fun v H => v = .bool (decide (0 ≤ x ∧ x ≤ m ∧ n ≤ m - x)) ∧ H = []) := rwithin_ok x n m hm

theorem rform_ok {ρ : Nat → Obj → Prop} (i : Ins) (at' len : Int) : Con Tryz.prog ρ 66 #[.agg (encIns i).toArray, .int .i64 at', .int .i64 len] [] (fun v H => v = .bool (formP len at' i) ∧ H = []) := by
 rw [form_ref]
 have hkn : knownP i.1 ↔ 1 ≤ i.1 ∧ i.1 ≤ 10 := Iff.rfl
 have hfl : (fieldsR i.1).length ≤ 100 := by
  unfold fieldsR
  split
  ·rename_i h; rcases op_cases h with h | h | h | h | h | h | h | h | h | h <;> rw [h] <;> decide
  ·decide
 refine con_intro Tryz.func66 Tryz.call66 rfl Tryz.ntmps66 rfl (L := [(0, _), (1, _), (2, _)]) rfl fun w hh => ?_
 refine g_seq <| g_region ?_
 refine g_eff (e_box rfl (by rfl)) rfl (fun _ _ => ?_)
 rintro ⟨b3, rfl, rfl⟩
 refine g_as ?_
 refine g_nil <| g_qt <| g_seq ?_
 refine g_join (fun _ : Unit => [(1, .int .i64 at'), (2, .int .i64 len), (3, .pointer (some ⟨b3, 0, none⟩))]) (fun _ => [Blk b3 (.cells [.int .i64 i.1, .int .i64 i.2.1, .int .i64 i.2.2.1, .int .i64 i.2.2.2.1, .int .i64 i.2.2.2.2].toArray 32 (0, 0))]) (fun _ => knownP i.1) ?_ ?_
 ·refine g_seq <| g_region ?_
  refine g_fa ?_
  refine g_ld ?_
  refine g_pure (p_lss rfl rfl) rfl ?_
  refine g_mv ?_
  refine g_splitd rfl rfl (fun h1 => ?_) (fun h1 => ?_)
  ·refine g_noA ?_
   refine g_noA ?_
   refine g_noA ?_
   first | refine g_pkt ?_ | refine g_pkf ?_
   refine g_nil <| g_qt ?_
   refine g_ift rfl ?_
   refine g_seq <| g_region ?_
   refine g_as ?_
   refine g_nil <| g_qt <| g_ret <| g_qn_ret <| g_qt_ret ?_
   exact g_postA (rs := [.tmp 6]) rfl (.tmp rfl .nil) ⟨by rw [decide_eq_false (fun h => by have := hkn.1 h; omega)]; rfl, rfl⟩
  ·refine g_yesA ?_
   refine g_fa ?_
   refine g_yesA ?_
   refine g_ld ?_
   refine g_yesA ?_
   refine g_pure (p_gtr rfl rfl) rfl ?_
   first | refine g_pkt ?_ | refine g_pkf ?_
   refine g_nil <| g_qt ?_
   refine g_ifdL rfl (fun h3 => ?_) (fun h3 => ?_)
   ·refine g_seq <| g_region ?_
    refine g_as ?_
    refine g_nil <| g_qt <| g_ret <| g_qn_ret <| g_qt_ret ?_
    exact g_postA (rs := [.tmp 6]) rfl (.tmp rfl .nil) ⟨by rw [decide_eq_false (fun h => by have := hkn.1 h; omega)]; rfl, rfl⟩
   ·refine g_skip <| g_qn ?_
    exact g_joinedA () (hkn.2 ⟨by omega, by omega⟩)
 rintro _ hk
 refine g_qt ?_
 rw [decide_eq_true hk, Bool.true_and]
 refine g_seq <| g_region ?_
 refine g_as ?_
 refine g_nil <| g_qt <| g_seq <| g_seq <| g_region ?_
 refine g_as ?_
 refine g_nil <| g_qt <| g_block ?_
 refine g_loop (fun k : Nat => [(1, .int .i64 at'), (2, .int .i64 len), (3, .pointer (some ⟨b3, 0, none⟩)), (7, .string ⟨#[65, 66, 67, 68]⟩), (8, .int .i64 k)])
  (fun _ => [Blk b3 (.cells [.int .i64 i.1, .int .i64 i.2.1, .int .i64 i.2.2.1, .int .i64 i.2.2.2.1, .int .i64 i.2.2.2.2].toArray 32 (0, 0))]) (fun k => k ≤ 4 ∧ (lettersP.take k).all (zeroR i) = true) (fun k => 4 - k) 0 ⟨Nat.zero_le _, rfl⟩ (by (repeat (first | exact trivial | refine ⟨by rfl, ?_⟩)); done) (by repeat' (first | exact Cover.nil | exact Take.here | apply Cover.cons | apply Take.there)) ?_
 rintro k ⟨hk1, hk2⟩
 refine g_seq <| g_seq <| g_region ?_
 refine g_mv ?_
 refine g_pure (p_lss rfl rfl) rfl ?_
 refine g_nil <| g_qt ?_
 refine g_ifd rfl (fun q => ?_) (fun q => ?_)
 ·have hkl : k < lettersP.length := by show k < 4; omega
  have hk1' : k + 1 ≤ 4 := hkl
  have hk2' : 4 - (k + 1) < 4 - k := by omega
  obtain ⟨t1, t2⟩ := take_char hkl hk2
  have hx := strB_at lettersP hkl
  generalize lettersP[k] = c at t1 t2 hx
  have hz : zeroR i c = ((fieldsR i.1).contains c || decide (fieldI i c = 0)) := rfl
  obtain ⟨y, hy⟩ : ∃ y, (fieldsR i.1).contains c = y := ⟨_, rfl⟩
  rw [hy] at hz
  have z1 : (!y) = false → zeroR i c = true := fun h => by rw [hz, show y = true by simpa using h]; rfl
  have z2 : fieldI i c = 0 → zeroR i c = true := fun h => by rw [hz, decide_eq_true h, Bool.or_true]
  have z3 : (!y) = true → fieldI i c ≠ 0 → zeroR i c = false := fun h h2 => by rw [hz, show y = false by simpa using h, decide_eq_false h2]; rfl
  have cH : ∀ ρ' : Nat → Obj → Prop, Con Tryz.prog ρ' 85 #[.string (strB (fieldsR i.1)), .int .u8 c.toNat] [] (fun v H => v = .bool y ∧ H = []) := fun ρ' => by have := rhas_ok (ρ := ρ') (fieldsR i.1) c hfl; rw [hy] at this; exact this
  refine g_skip <| g_qt <| g_seq <| g_block <| g_seq ?_
  refine m_begin0 (.fl 0 0 (.fl 1 1 (.fl 3 0 (.fl 4 0 (.fl 5 0 (.ef 2 (.ef 6 (.fl 7 0 (.fl 8 0 (.fl 9 1 (.fl 10 0 (.fl 11 0 (.fl 12 0 (.ef 13 (.fl 14 0 (.fl 15 0 .done)))))))))))))))) (by kernel_rfl) (by kernel_rfl) ?_
  refine m_float0 rfl (fun _ _ => p_fieldAddr rfl) rfl ?_
  refine m_float rfl (p_loadA) rfl ?_
  refine m_float0 rfl (fun _ _ => p_move rfl) rfl ?_
  refine m_float0 rfl (fun _ _ => p_move rfl) rfl ?_
  refine m_float0 rfl (fun _ _ => p_indexs (s := ⟨#[65, 66, 67, 68]⟩) (by rfl) rfl rfl (by omega) hx) rfl ?_
  refine m_call (Hin := []) (Hr := ?hr1) (R := ?rr1) rfl wantedN rfl rfl rfl ?hin1 ?hc1 ?hk1
  case hin1 => repeat' (first | exact Cover.nil | exact Take.here | apply Cover.cons | apply Take.there)
  case hc1 => intro ρ' hρ hR; exact rfields_ok i.1
  rintro _ _ ⟨rfl, rfl⟩
  refine ⟨.some (by repeat' (first | exact Cover.nil | exact Take.here | apply Cover.cons | apply Take.there)), ?_⟩
  refine m_call (Hin := []) (Hr := ?hr2) (R := ?rr2) rfl wantedN rfl rfl rfl ?hin2 ?hc2 ?hk2
  case hin2 => repeat' (first | exact Cover.nil | exact Take.here | apply Cover.cons | apply Take.there)
  case hc2 => intro ρ' hρ hR; exact cH ρ'
  rintro _ _ ⟨rfl, rfl⟩
  refine ⟨.some (by repeat' (first | exact Cover.nil | exact Take.here | apply Cover.cons | apply Take.there)), ?_⟩
  refine m_float0 rfl (fun _ _ => p_not rfl) rfl ?_
  refine m_float0 rfl (fun _ _ => p_move rfl) rfl ?_
  refine m_split 8 rfl rfl (fun h1 => ?_) (fun h1 => ?_)
  ·first | refine m_yes rfl rfl rfl (p_loadO (by rfl) rfl (by first | (apply Has.own; (repeat' (first | exact Take.here | apply Take.there)); done) | exact Has.ro (by assumption)) (by rfl)) rfl ?_ | refine m_yes rfl rfl rfl (p_loadN (by rfl) rfl (by first | (apply Has.own; (repeat' (first | exact Take.here | apply Take.there)); done) | exact Has.ro (by assumption)) (by first | rfl | assumption)) rfl ?_
   refine m_yes0 rfl rfl rfl (fun _ _ => p_move rfl) rfl ?_
   refine m_yes0 rfl rfl rfl (fun _ _ => p_move rfl) rfl ?_
   refine m_yes0 rfl rfl rfl (fun _ _ => p_indexs (s := ⟨#[65, 66, 67, 68]⟩) (by rfl) rfl rfl (by omega) hx) rfl ?_
   refine m_call (Hin := []) (Hr := ?hr3) (R := ?rr3) rfl (wantedY rfl rfl) rfl rfl rfl ?hin3 ?hc3 ?hk3
   case hin3 => repeat' (first | exact Cover.nil | exact Take.here | apply Cover.cons | apply Take.there)
   case hc3 => intro ρ' hρ hR; exact rfield_ok i c
   rintro _ _ ⟨rfl, rfl⟩
   refine ⟨.none (by kernel_rfl), ?_⟩
   refine m_yes0 rfl rfl rfl (fun _ _ => p_neq rfl rfl) rfl ?_
   first | refine m_float0 rfl (fun _ _ => p_pickt rfl rfl) rfl ?_ | refine m_float0 rfl (fun _ _ => p_pickf rfl rfl) rfl ?_
   refine m_nil ?_
   refine g_qt ?_
   refine g_ifndL rfl (fun h2 => ?_) (fun h2 => ?_)
   ·refine g_seq <| g_region ?_
    refine g_as ?_
    refine g_nil <| g_qt <| g_ret <| g_qb_ret <| g_qt_ret <| g_qn_ret <| g_qb_ret <| g_qt_ret ?_
    exact g_postA (rs := [.tmp 6]) rfl (.tmp rfl .nil) ⟨by rw [t2 (z3 (by assumption) (by assumption))]; rfl, rfl⟩
   ·refine g_skip <| g_qb <| g_qt <| g_region ?_
    refine g_mv ?_
    first | refine g_pure (p_addi rfl rfl (by omega)) rfl ?_ | refine g_pure (p_add rfl rfl) rfl ?_
    refine g_as ?_
    refine g_nil <| g_qn ?_
    first | exact g_nextA (k + 1) ⟨hk1', t1 (z2 (by omega))⟩ hk2' | exact g_nextA (k + 1) ⟨hk1', t1 (z1 (by assumption))⟩ hk2'
  ·refine m_no rfl rfl rfl rfl rfl ?_
   refine m_no0 rfl rfl rfl rfl rfl ?_
   refine m_no0 rfl rfl rfl rfl rfl ?_
   refine m_no0 rfl rfl rfl rfl rfl ?_
   refine m_noe rfl rfl rfl rfl rfl (.none (by kernel_rfl)) ?_
   refine m_no0 rfl rfl rfl rfl rfl ?_
   first | refine m_float0 rfl (fun _ _ => p_pickt rfl rfl) rfl ?_ | refine m_float0 rfl (fun _ _ => p_pickf rfl rfl) rfl ?_
   refine m_nil ?_
   refine g_qt ?_
   refine g_iff rfl ?_
   refine g_skip <| g_qb <| g_qt <| g_region ?_
   refine g_mv ?_
   first | refine g_pure (p_addi rfl rfl (by omega)) rfl ?_ | refine g_pure (p_add rfl rfl) rfl ?_
   refine g_as ?_
   refine g_nil <| g_qn ?_
   first | exact g_nextA (k + 1) ⟨hk1', t1 (z2 (by omega))⟩ hk2' | exact g_nextA (k + 1) ⟨hk1', t1 (z1 (by assumption))⟩ hk2'
 ·have hall : lettersP.all (zeroR i) = true := by rw [List.take_of_length_le (show lettersP.length ≤ k by show 4 ≤ k; omega)] at hk2; exact hk2
  rw [hall, Bool.true_and]
  have d5 : i.1 = 5 → lastR len at' i = decide (i.2.2.2.1 = 1 ∨ i.2.2.2.1 = 2) := fun h => by unfold lastR; rw [if_pos h]
  have d6 : i.1 = 6 → lastR len at' i = decide (3 ≤ i.2.2.2.2 ∧ i.2.2.2.2 ≤ 16) := fun h => by unfold lastR; rw [if_neg (by omega), if_pos h]
  have d7 : i.1 = 7 ∨ i.1 = 8 → lastR len at' i = decide (at' < i.2.2.1 ∧ i.2.2.1 ≤ len) := fun h => by unfold lastR; rw [if_neg (by omega), if_neg (by omega), if_pos h]
  have hE : ¬ (5 ≤ i.1 ∧ i.1 ≤ 8) → lastR len at' i = true := fun h => by unfold lastR; rw [if_neg (by omega), if_neg (by omega), if_neg (by omega)]
  generalize lastR len at' i = R at d5 d6 d7 hE ⊢
  refine g_exit <| g_qt_exit <| g_qn_exit <| g_qb_exit <| g_qt <| g_seq <| g_seq <| g_region ?_
  refine g_fa ?_
  refine g_ld ?_
  refine g_nil <| g_qt <| g_block <| g_seq <| g_region ?_
  refine g_pure (p_eql rfl rfl) rfl ?_
  refine g_as ?_
  refine g_nil <| g_qt ?_
  refine g_ifdL rfl (fun h1 => ?_) (fun h1 => ?_)
  ·refine g_seq <| g_region ?_
   refine g_fa ?_
   refine g_ld ?_
   refine g_pure (p_eql rfl rfl) rfl ?_
   refine g_mv ?_
   refine g_splitd rfl rfl (fun h2 => ?_) (fun h2 => ?_)
   ·refine g_noA ?_
    refine g_noA ?_
    refine g_noA ?_
    first | refine g_pkt ?_ | refine g_pkf ?_
    refine g_as ?_
    refine g_nil <| g_qt <| g_ret <| g_qb_ret <| g_qt_ret ?_
    first | exact g_postA (rs := [.tmp 6]) rfl (.tmp rfl .nil) ⟨show Value.bool true = _ by (rw [d5 (by omega), decide_eq_true (by omega)]), rfl⟩ | exact g_postA (rs := [.tmp 6]) rfl (.tmp rfl .nil) ⟨show Value.bool (decide (i.2.2.2.1 = 2)) = _ by (rw [d5 (by omega)]; congr 1; exact decide_eq_decide.2 (by omega)), rfl⟩ | exact g_postA (rs := [.tmp 6]) rfl (.tmp rfl .nil) ⟨show Value.bool false = _ by (rw [d6 (by omega), decide_eq_false (by omega)]), rfl⟩ | exact g_postA (rs := [.tmp 6]) rfl (.tmp rfl .nil) ⟨show Value.bool (decide (i.2.2.2.2 ≤ 16)) = _ by (rw [d6 (by omega)]; congr 1; exact decide_eq_decide.2 (by omega)), rfl⟩ | exact g_postA (rs := [.tmp 6]) rfl (.tmp rfl .nil) ⟨show Value.bool false = _ by (rw [d7 (by omega), decide_eq_false (by omega)]), rfl⟩ | exact g_postA (rs := [.tmp 6]) rfl (.tmp rfl .nil) ⟨show Value.bool (decide (i.2.2.1 ≤ len)) = _ by (rw [d7 (by omega)]; congr 1; exact decide_eq_decide.2 (by omega)), rfl⟩ | exact g_postA (rs := [.tmp 6]) rfl (.tmp rfl .nil) ⟨show Value.bool true = _ by (rw [hE (by omega)]), rfl⟩
   ·refine g_yesA ?_
    refine g_fa ?_
    refine g_yesA ?_
    refine g_ld ?_
    refine g_yesA ?_
    refine g_pure (p_eql rfl rfl) rfl ?_
    first | refine g_pkt ?_ | refine g_pkf ?_
    refine g_as ?_
    refine g_nil <| g_qt <| g_ret <| g_qb_ret <| g_qt_ret ?_
    first | exact g_postA (rs := [.tmp 6]) rfl (.tmp rfl .nil) ⟨show Value.bool true = _ by (rw [d5 (by omega), decide_eq_true (by omega)]), rfl⟩ | exact g_postA (rs := [.tmp 6]) rfl (.tmp rfl .nil) ⟨show Value.bool (decide (i.2.2.2.1 = 2)) = _ by (rw [d5 (by omega)]; congr 1; exact decide_eq_decide.2 (by omega)), rfl⟩ | exact g_postA (rs := [.tmp 6]) rfl (.tmp rfl .nil) ⟨show Value.bool false = _ by (rw [d6 (by omega), decide_eq_false (by omega)]), rfl⟩ | exact g_postA (rs := [.tmp 6]) rfl (.tmp rfl .nil) ⟨show Value.bool (decide (i.2.2.2.2 ≤ 16)) = _ by (rw [d6 (by omega)]; congr 1; exact decide_eq_decide.2 (by omega)), rfl⟩ | exact g_postA (rs := [.tmp 6]) rfl (.tmp rfl .nil) ⟨show Value.bool false = _ by (rw [d7 (by omega), decide_eq_false (by omega)]), rfl⟩ | exact g_postA (rs := [.tmp 6]) rfl (.tmp rfl .nil) ⟨show Value.bool (decide (i.2.2.1 ≤ len)) = _ by (rw [d7 (by omega)]; congr 1; exact decide_eq_decide.2 (by omega)), rfl⟩ | exact g_postA (rs := [.tmp 6]) rfl (.tmp rfl .nil) ⟨show Value.bool true = _ by (rw [hE (by omega)]), rfl⟩
  ·refine g_seq <| g_region ?_
   refine g_pure (p_eql rfl rfl) rfl ?_
   refine g_as ?_
   refine g_nil <| g_qt ?_
   refine g_ifdL rfl (fun h3 => ?_) (fun h3 => ?_)
   ·refine g_seq <| g_region ?_
    refine g_fa ?_
    refine g_ld ?_
    refine g_pure (p_geq rfl rfl) rfl ?_
    refine g_mv ?_
    refine g_splitd rfl rfl (fun h4 => ?_) (fun h4 => ?_)
    ·refine g_yesA ?_
     refine g_fa ?_
     refine g_yesA ?_
     refine g_ld ?_
     refine g_yesA ?_
     refine g_pure (p_leq rfl rfl) rfl ?_
     first | refine g_pkt ?_ | refine g_pkf ?_
     refine g_as ?_
     refine g_nil <| g_qt <| g_ret <| g_qb_ret <| g_qt_ret ?_
     first | exact g_postA (rs := [.tmp 6]) rfl (.tmp rfl .nil) ⟨show Value.bool true = _ by (rw [d5 (by omega), decide_eq_true (by omega)]), rfl⟩ | exact g_postA (rs := [.tmp 6]) rfl (.tmp rfl .nil) ⟨show Value.bool (decide (i.2.2.2.1 = 2)) = _ by (rw [d5 (by omega)]; congr 1; exact decide_eq_decide.2 (by omega)), rfl⟩ | exact g_postA (rs := [.tmp 6]) rfl (.tmp rfl .nil) ⟨show Value.bool false = _ by (rw [d6 (by omega), decide_eq_false (by omega)]), rfl⟩ | exact g_postA (rs := [.tmp 6]) rfl (.tmp rfl .nil) ⟨show Value.bool (decide (i.2.2.2.2 ≤ 16)) = _ by (rw [d6 (by omega)]; congr 1; exact decide_eq_decide.2 (by omega)), rfl⟩ | exact g_postA (rs := [.tmp 6]) rfl (.tmp rfl .nil) ⟨show Value.bool false = _ by (rw [d7 (by omega), decide_eq_false (by omega)]), rfl⟩ | exact g_postA (rs := [.tmp 6]) rfl (.tmp rfl .nil) ⟨show Value.bool (decide (i.2.2.1 ≤ len)) = _ by (rw [d7 (by omega)]; congr 1; exact decide_eq_decide.2 (by omega)), rfl⟩ | exact g_postA (rs := [.tmp 6]) rfl (.tmp rfl .nil) ⟨show Value.bool true = _ by (rw [hE (by omega)]), rfl⟩
    ·refine g_noA ?_
     refine g_noA ?_
     refine g_noA ?_
     first | refine g_pkt ?_ | refine g_pkf ?_
     refine g_as ?_
     refine g_nil <| g_qt <| g_ret <| g_qb_ret <| g_qt_ret ?_
     first | exact g_postA (rs := [.tmp 6]) rfl (.tmp rfl .nil) ⟨show Value.bool true = _ by (rw [d5 (by omega), decide_eq_true (by omega)]), rfl⟩ | exact g_postA (rs := [.tmp 6]) rfl (.tmp rfl .nil) ⟨show Value.bool (decide (i.2.2.2.1 = 2)) = _ by (rw [d5 (by omega)]; congr 1; exact decide_eq_decide.2 (by omega)), rfl⟩ | exact g_postA (rs := [.tmp 6]) rfl (.tmp rfl .nil) ⟨show Value.bool false = _ by (rw [d6 (by omega), decide_eq_false (by omega)]), rfl⟩ | exact g_postA (rs := [.tmp 6]) rfl (.tmp rfl .nil) ⟨show Value.bool (decide (i.2.2.2.2 ≤ 16)) = _ by (rw [d6 (by omega)]; congr 1; exact decide_eq_decide.2 (by omega)), rfl⟩ | exact g_postA (rs := [.tmp 6]) rfl (.tmp rfl .nil) ⟨show Value.bool false = _ by (rw [d7 (by omega), decide_eq_false (by omega)]), rfl⟩ | exact g_postA (rs := [.tmp 6]) rfl (.tmp rfl .nil) ⟨show Value.bool (decide (i.2.2.1 ≤ len)) = _ by (rw [d7 (by omega)]; congr 1; exact decide_eq_decide.2 (by omega)), rfl⟩ | exact g_postA (rs := [.tmp 6]) rfl (.tmp rfl .nil) ⟨show Value.bool true = _ by (rw [hE (by omega)]), rfl⟩
   ·refine g_seq <| g_seq <| g_region ?_
    refine g_pure (p_eql rfl rfl) rfl ?_
    refine g_as ?_
    refine g_nil <| g_qt ?_
    refine g_ifdL rfl (fun h5 => ?_) (fun h5 => ?_)
    ·refine g_skip <| g_qt ?_
     refine g_ift rfl ?_
     refine g_seq <| g_region ?_
     refine g_fa ?_
     refine g_ld ?_
     refine g_mv ?_
     refine g_pure (p_gtr rfl rfl) rfl ?_
     refine g_mv ?_
     refine g_splitd rfl rfl (fun h7 => ?_) (fun h7 => ?_)
     ·refine g_yesA ?_
      refine g_fa ?_
      refine g_yesA ?_
      refine g_ld ?_
      refine g_yesA ?_
      refine g_mv ?_
      refine g_yesA ?_
      refine g_pure (p_leq rfl rfl) rfl ?_
      first | refine g_pkt ?_ | refine g_pkf ?_
      refine g_as ?_
      refine g_nil <| g_qt <| g_ret <| g_qb_ret <| g_qt_ret ?_
      first | exact g_postA (rs := [.tmp 6]) rfl (.tmp rfl .nil) ⟨show Value.bool true = _ by (rw [d5 (by omega), decide_eq_true (by omega)]), rfl⟩ | exact g_postA (rs := [.tmp 6]) rfl (.tmp rfl .nil) ⟨show Value.bool (decide (i.2.2.2.1 = 2)) = _ by (rw [d5 (by omega)]; congr 1; exact decide_eq_decide.2 (by omega)), rfl⟩ | exact g_postA (rs := [.tmp 6]) rfl (.tmp rfl .nil) ⟨show Value.bool false = _ by (rw [d6 (by omega), decide_eq_false (by omega)]), rfl⟩ | exact g_postA (rs := [.tmp 6]) rfl (.tmp rfl .nil) ⟨show Value.bool (decide (i.2.2.2.2 ≤ 16)) = _ by (rw [d6 (by omega)]; congr 1; exact decide_eq_decide.2 (by omega)), rfl⟩ | exact g_postA (rs := [.tmp 6]) rfl (.tmp rfl .nil) ⟨show Value.bool false = _ by (rw [d7 (by omega), decide_eq_false (by omega)]), rfl⟩ | exact g_postA (rs := [.tmp 6]) rfl (.tmp rfl .nil) ⟨show Value.bool (decide (i.2.2.1 ≤ len)) = _ by (rw [d7 (by omega)]; congr 1; exact decide_eq_decide.2 (by omega)), rfl⟩ | exact g_postA (rs := [.tmp 6]) rfl (.tmp rfl .nil) ⟨show Value.bool true = _ by (rw [hE (by omega)]), rfl⟩
     ·refine g_noA ?_
      refine g_noA ?_
      refine g_noA ?_
      refine g_noA ?_
      first | refine g_pkt ?_ | refine g_pkf ?_
      refine g_as ?_
      refine g_nil <| g_qt <| g_ret <| g_qb_ret <| g_qt_ret ?_
      first | exact g_postA (rs := [.tmp 6]) rfl (.tmp rfl .nil) ⟨show Value.bool true = _ by (rw [d5 (by omega), decide_eq_true (by omega)]), rfl⟩ | exact g_postA (rs := [.tmp 6]) rfl (.tmp rfl .nil) ⟨show Value.bool (decide (i.2.2.2.1 = 2)) = _ by (rw [d5 (by omega)]; congr 1; exact decide_eq_decide.2 (by omega)), rfl⟩ | exact g_postA (rs := [.tmp 6]) rfl (.tmp rfl .nil) ⟨show Value.bool false = _ by (rw [d6 (by omega), decide_eq_false (by omega)]), rfl⟩ | exact g_postA (rs := [.tmp 6]) rfl (.tmp rfl .nil) ⟨show Value.bool (decide (i.2.2.2.2 ≤ 16)) = _ by (rw [d6 (by omega)]; congr 1; exact decide_eq_decide.2 (by omega)), rfl⟩ | exact g_postA (rs := [.tmp 6]) rfl (.tmp rfl .nil) ⟨show Value.bool false = _ by (rw [d7 (by omega), decide_eq_false (by omega)]), rfl⟩ | exact g_postA (rs := [.tmp 6]) rfl (.tmp rfl .nil) ⟨show Value.bool (decide (i.2.2.1 ≤ len)) = _ by (rw [d7 (by omega)]; congr 1; exact decide_eq_decide.2 (by omega)), rfl⟩ | exact g_postA (rs := [.tmp 6]) rfl (.tmp rfl .nil) ⟨show Value.bool true = _ by (rw [hE (by omega)]), rfl⟩
    ·refine g_region ?_
     refine g_pure (p_eql rfl rfl) rfl ?_
     refine g_as ?_
     refine g_nil <| g_qt ?_
     refine g_ifdL rfl (fun h8 => ?_) (fun h8 => ?_)
     ·refine g_seq <| g_region ?_
      refine g_fa ?_
      refine g_ld ?_
      refine g_mv ?_
      refine g_pure (p_gtr rfl rfl) rfl ?_
      refine g_mv ?_
      refine g_splitd rfl rfl (fun h9 => ?_) (fun h9 => ?_)
      ·refine g_yesA ?_
       refine g_fa ?_
       refine g_yesA ?_
       refine g_ld ?_
       refine g_yesA ?_
       refine g_mv ?_
       refine g_yesA ?_
       refine g_pure (p_leq rfl rfl) rfl ?_
       first | refine g_pkt ?_ | refine g_pkf ?_
       refine g_as ?_
       refine g_nil <| g_qt <| g_ret <| g_qb_ret <| g_qt_ret ?_
       first | exact g_postA (rs := [.tmp 6]) rfl (.tmp rfl .nil) ⟨show Value.bool true = _ by (rw [d5 (by omega), decide_eq_true (by omega)]), rfl⟩ | exact g_postA (rs := [.tmp 6]) rfl (.tmp rfl .nil) ⟨show Value.bool (decide (i.2.2.2.1 = 2)) = _ by (rw [d5 (by omega)]; congr 1; exact decide_eq_decide.2 (by omega)), rfl⟩ | exact g_postA (rs := [.tmp 6]) rfl (.tmp rfl .nil) ⟨show Value.bool false = _ by (rw [d6 (by omega), decide_eq_false (by omega)]), rfl⟩ | exact g_postA (rs := [.tmp 6]) rfl (.tmp rfl .nil) ⟨show Value.bool (decide (i.2.2.2.2 ≤ 16)) = _ by (rw [d6 (by omega)]; congr 1; exact decide_eq_decide.2 (by omega)), rfl⟩ | exact g_postA (rs := [.tmp 6]) rfl (.tmp rfl .nil) ⟨show Value.bool false = _ by (rw [d7 (by omega), decide_eq_false (by omega)]), rfl⟩ | exact g_postA (rs := [.tmp 6]) rfl (.tmp rfl .nil) ⟨show Value.bool (decide (i.2.2.1 ≤ len)) = _ by (rw [d7 (by omega)]; congr 1; exact decide_eq_decide.2 (by omega)), rfl⟩ | exact g_postA (rs := [.tmp 6]) rfl (.tmp rfl .nil) ⟨show Value.bool true = _ by (rw [hE (by omega)]), rfl⟩
      ·refine g_noA ?_
       refine g_noA ?_
       refine g_noA ?_
       refine g_noA ?_
       first | refine g_pkt ?_ | refine g_pkf ?_
       refine g_as ?_
       refine g_nil <| g_qt <| g_ret <| g_qb_ret <| g_qt_ret ?_
       first | exact g_postA (rs := [.tmp 6]) rfl (.tmp rfl .nil) ⟨show Value.bool true = _ by (rw [d5 (by omega), decide_eq_true (by omega)]), rfl⟩ | exact g_postA (rs := [.tmp 6]) rfl (.tmp rfl .nil) ⟨show Value.bool (decide (i.2.2.2.1 = 2)) = _ by (rw [d5 (by omega)]; congr 1; exact decide_eq_decide.2 (by omega)), rfl⟩ | exact g_postA (rs := [.tmp 6]) rfl (.tmp rfl .nil) ⟨show Value.bool false = _ by (rw [d6 (by omega), decide_eq_false (by omega)]), rfl⟩ | exact g_postA (rs := [.tmp 6]) rfl (.tmp rfl .nil) ⟨show Value.bool (decide (i.2.2.2.2 ≤ 16)) = _ by (rw [d6 (by omega)]; congr 1; exact decide_eq_decide.2 (by omega)), rfl⟩ | exact g_postA (rs := [.tmp 6]) rfl (.tmp rfl .nil) ⟨show Value.bool false = _ by (rw [d7 (by omega), decide_eq_false (by omega)]), rfl⟩ | exact g_postA (rs := [.tmp 6]) rfl (.tmp rfl .nil) ⟨show Value.bool (decide (i.2.2.1 ≤ len)) = _ by (rw [d7 (by omega)]; congr 1; exact decide_eq_decide.2 (by omega)), rfl⟩ | exact g_postA (rs := [.tmp 6]) rfl (.tmp rfl .nil) ⟨show Value.bool true = _ by (rw [hE (by omega)]), rfl⟩
     ·refine g_skip <| g_qb <| g_qt <| g_seq <| g_region ?_
      refine g_as ?_
      refine g_nil <| g_qt <| g_ret ?_
      first | exact g_postA (rs := [.tmp 6]) rfl (.tmp rfl .nil) ⟨show Value.bool true = _ by (rw [d5 (by omega), decide_eq_true (by omega)]), rfl⟩ | exact g_postA (rs := [.tmp 6]) rfl (.tmp rfl .nil) ⟨show Value.bool (decide (i.2.2.2.1 = 2)) = _ by (rw [d5 (by omega)]; congr 1; exact decide_eq_decide.2 (by omega)), rfl⟩ | exact g_postA (rs := [.tmp 6]) rfl (.tmp rfl .nil) ⟨show Value.bool false = _ by (rw [d6 (by omega), decide_eq_false (by omega)]), rfl⟩ | exact g_postA (rs := [.tmp 6]) rfl (.tmp rfl .nil) ⟨show Value.bool (decide (i.2.2.2.2 ≤ 16)) = _ by (rw [d6 (by omega)]; congr 1; exact decide_eq_decide.2 (by omega)), rfl⟩ | exact g_postA (rs := [.tmp 6]) rfl (.tmp rfl .nil) ⟨show Value.bool false = _ by (rw [d7 (by omega), decide_eq_false (by omega)]), rfl⟩ | exact g_postA (rs := [.tmp 6]) rfl (.tmp rfl .nil) ⟨show Value.bool (decide (i.2.2.1 ≤ len)) = _ by (rw [d7 (by omega)]; congr 1; exact decide_eq_decide.2 (by omega)), rfl⟩ | exact g_postA (rs := [.tmp 6]) rfl (.tmp rfl .nil) ⟨show Value.bool true = _ by (rw [hE (by omega)]), rfl⟩

theorem rranges_ok {ρ : Nat → Obj → Prop} {ea ra : Option Addr} {ec rc : Nat} {im : Im} (h : ImI ρ ea ra im) (kr : Nat) (hkr : kr < im.2.length) (i : Ins) :
  Con Tryz.prog ρ 67 #[.agg #[.slice ea im.1.length ec, .slice ra im.2.length rc], .int .i64 kr, .agg (encIns i).toArray] [] (fun v H => v = .bool (rangesP im.2 kr i) ∧ H = []) := by
 rw [ranges_ref im.2 kr hkr i]
 have hrl := h.rl
 obtain ⟨b, off, cs, T, fz, r1, r2, r3⟩ := h.rs (by omega)
 obtain ⟨row, q1, q2, q3⟩ := r3 kr hkr
 have hok := h.ok im.2[kr] (List.getElem_mem hkr)
 have hcok := calledP_len h.ok i.2.1
 obtain ⟨y, hy⟩ : ∃ y, calledP im.2 i.2.1 = y := ⟨_, rfl⟩
 obtain ⟨ja, jc, pa, pc, qa, qc, sa, sc, hrow⟩ : ∃ ja jc pa pc qa qc sa sc, 0 ≤ i.2.1 ∧ i.2.1 < kr → sub cs (off + i.2.1.toNat * 6) 6 = some [.string (strB y.1), .slice ja y.2.1.length jc, .slice pa y.2.2.1.length pc, .int .i64 y.2.2.2.1, .slice qa y.2.2.2.2.1.length qc, .slice sa y.2.2.2.2.2.length sc] := by
  by_cases hA : 0 ≤ i.2.1 ∧ i.2.1 < kr
  ·have hl : i.2.1.toNat < im.2.length := by omega
   obtain ⟨rw', w1, w2, w3⟩ := r3 i.2.1.toNat hl
   have he : im.2[i.2.1.toNat] = y := by
    rw [← hy]; unfold calledP
    rw [if_neg (by omega), List.getD_eq_getElem?_getD, List.getElem?_eq_getElem hl]; rfl
   rw [he] at w1
   obtain ⟨ja, jc, pa, pc, qa, qc, sa, sc, e0, _⟩ := w1
   exact ⟨ja, jc, pa, pc, qa, qc, sa, sc, fun _ => by rw [w2, e0]⟩
  ·exact ⟨none, 0, none, 0, none, 0, none, 0, fun h => absurd h hA⟩
 rw [hy] at hcok
 generalize im.2[kr] = x0 at q1 hok
 obtain ⟨ia, ic, oa, oc, na, nc, ca, cc, e0, _⟩ := q1
 subst e0
 have hg64 := hok.ri
 have hzl := hok.zl
 have hcz := hcok.zl
 have hci := hcok.il
 have hco := hcok.ol
 obtain ⟨R, hR⟩ : ∃ R, rangesR im.2 kr x0 i = R := ⟨_, rfl⟩
 obtain ⟨d1, d2, d3, d4, d6, d8, d9, d10, dE⟩ := ranges_cases im.2 kr x0 i hy hR rfl rfl
 rw [hR]
 obtain ⟨hg1, hg2⟩ := id hg64
 refine con_intro Tryz.func67 Tryz.call67 rfl Tryz.ntmps67 rfl (L := [(0, _), (1, _), (2, _)]) rfl fun w hh => ?_
 refine g_seq <| g_region ?_
 refine g_eff (e_box rfl (by rfl)) rfl (fun _ _ => ?_)
 rintro ⟨b3, rfl, rfl⟩
 refine g_eff (e_box rfl (by rfl)) rfl (fun _ _ => ?_)
 rintro ⟨b5, rfl, rfl⟩
 refine g_as ?_
 refine g_nil <| g_qt <| g_seq <| g_region ?_
 refine g_fa ?_
 refine g_ld ?_
 refine g_mv ?_
 refine g_pure (p_indexAddr rfl rfl (by omega) (fun _ => r1)) rfl ?_
 refine g_pure (p_loadN (by rfl) rfl (Has.ro r2) (by rw [Int.toNat_natCast]; exact q2)) rfl ?_
 refine g_eff (e_alloc (by rfl)) rfl (fun _ _ => ?_)
 rintro ⟨b7, rfl, rfl⟩
 first | refine g_eff0 (e_storeO rfl rfl (by rfl) (by rfl) (by rfl) (by repeat' (first | exact Take.here | apply Take.there)) (by rfl)) (fun _ _ => ?_) | refine g_eff0 (e_storeN rfl rfl (by rfl) (by rfl) (by rfl) (by repeat' (first | exact Take.here | apply Take.there)) (by simp)) (fun _ _ => ?_)
 rintro rfl
 refine g_nil <| g_qt <| g_seq ?_
 refine m_begin0 (.fl 0 0 (.fl 1 1 (.fl 2 0 (.fl 3 1 (.fl 4 0 (.fl 5 0 (.fl 6 0 .done))))))) (by kernel_rfl) (by kernel_rfl) ?_
 refine m_float0 rfl (fun _ _ => p_fieldAddr rfl) rfl ?_
 refine m_float rfl (p_loadA) rfl ?_
 refine m_float0 rfl (fun _ _ => p_fieldAddr rfl) rfl ?_
 refine m_float rfl (p_loadA) rfl ?_
 refine m_float0 rfl (fun _ _ => p_len (by rfl) rfl) rfl ?_
 refine m_float0 rfl (fun _ _ => p_assign rfl) rfl ?_
 refine m_float0 rfl (fun _ _ => p_assign rfl) rfl ?_
 refine m_nil ?_
 refine g_qt <| g_seq <| g_seq <| g_region ?_
 refine g_fa ?_
 refine g_ld ?_
 refine g_nil <| g_qt <| g_block <| g_seq <| g_region ?_
 refine g_pure (p_eql rfl rfl) rfl ?_
 refine g_as ?_
 refine g_nil <| g_qt ?_
 refine g_ifdL rfl (fun h1 => ?_) (fun h1 => ?_)
 ·refine g_seq <| g_region ?_
  refine g_fa ?_
  refine g_ld ?_
  refine g_mv ?_
  refine g_call (Hin := []) (Hr := ?hr4) (R := ?rr4) rfl rfl rfl ?hin4 ?hc4 ?hk4
  case hin4 => repeat' (first | exact Cover.nil | exact Take.here | apply Cover.cons | apply Take.there)
  case hc4 => intro ρ' hρ hR; exact rwi_ok i.2.1 1 x0.2.2.2.1 hg64
  rintro _ _ ⟨rfl, rfl⟩
  refine g_mv ?_
  refine g_splitd rfl rfl (fun h2 => ?_) (fun h2 => ?_)
  ·refine g_yesA ?_
   refine g_fa ?_
   refine g_yesA ?_
   refine g_ld ?_
   refine g_yesA ?_
   refine g_pure (p_geq rfl rfl) rfl ?_
   first | refine g_pkt ?_ | refine g_pkf ?_
   refine g_mv ?_
   refine g_splitd rfl rfl (fun h3 => ?_) (fun h3 => ?_)
   ·refine g_yesA ?_
    refine g_fa ?_
    refine g_yesA ?_
    refine g_ld ?_
    refine g_yesA ?_
    refine g_pure (p_leq rfl rfl) rfl ?_
    first | refine g_pkt ?_ | refine g_pkf ?_
    refine g_as ?_
    refine g_nil <| g_qt <| g_ret <| g_qb_ret <| g_qt_ret ?_
    refine g_post (rs := [.tmp 6]) rfl (.tmp rfl .nil) ⟨?_, rfl⟩ (by repeat' (first | exact Cover.nil | exact Take.here | apply Cover.cons | apply Take.there))
    (first | rw [d1 (by omega)] | rw [d2 (by omega)] | rw [d3 (by omega)] | rw [d4 (by omega)] | rw [d6 (by omega)] | rw [d8 (by omega)] | rw [d9 (by omega)] | rw [d10 (by omega)] | rw [dE (by omega) (by omega)])
    (first | rfl | exact congrArg Value.bool (decide_eq_false (by omega)).symm | exact congrArg Value.bool (decide_eq_true (by omega)).symm | exact congrArg Value.bool (decide_eq_decide.2 (by omega)))
   ·refine g_noA ?_
    refine g_noA ?_
    refine g_noA ?_
    first | refine g_pkt ?_ | refine g_pkf ?_
    refine g_as ?_
    refine g_nil <| g_qt <| g_ret <| g_qb_ret <| g_qt_ret ?_
    refine g_post (rs := [.tmp 6]) rfl (.tmp rfl .nil) ⟨?_, rfl⟩ (by repeat' (first | exact Cover.nil | exact Take.here | apply Cover.cons | apply Take.there))
    (first | rw [d1 (by omega)] | rw [d2 (by omega)] | rw [d3 (by omega)] | rw [d4 (by omega)] | rw [d6 (by omega)] | rw [d8 (by omega)] | rw [d9 (by omega)] | rw [d10 (by omega)] | rw [dE (by omega) (by omega)])
    (first | rfl | exact congrArg Value.bool (decide_eq_false (by omega)).symm | exact congrArg Value.bool (decide_eq_true (by omega)).symm | exact congrArg Value.bool (decide_eq_decide.2 (by omega)))
  ·refine g_noA ?_
   refine g_noA ?_
   refine g_noA ?_
   first | refine g_pkt ?_ | refine g_pkf ?_
   refine g_mv ?_
   refine g_noA ?_
   refine g_noA ?_
   refine g_noA ?_
   first | refine g_pkt ?_ | refine g_pkf ?_
   refine g_as ?_
   refine g_nil <| g_qt <| g_ret <| g_qb_ret <| g_qt_ret ?_
   refine g_post (rs := [.tmp 6]) rfl (.tmp rfl .nil) ⟨?_, rfl⟩ (by repeat' (first | exact Cover.nil | exact Take.here | apply Cover.cons | apply Take.there))
   (first | rw [d1 (by omega)] | rw [d2 (by omega)] | rw [d3 (by omega)] | rw [d4 (by omega)] | rw [d6 (by omega)] | rw [d8 (by omega)] | rw [d9 (by omega)] | rw [d10 (by omega)] | rw [dE (by omega) (by omega)])
   (first | rfl | exact congrArg Value.bool (decide_eq_false (by omega)).symm | exact congrArg Value.bool (decide_eq_true (by omega)).symm | exact congrArg Value.bool (decide_eq_decide.2 (by omega)))
 ·refine g_seq <| g_seq <| g_region ?_
  refine g_pure (p_eql rfl rfl) rfl ?_
  refine g_as ?_
  refine g_nil <| g_qt ?_
  refine g_ifdL rfl (fun h5 => ?_) (fun h5 => ?_)
  ·refine g_skip <| g_qt ?_
   refine g_ift rfl ?_
   refine g_seq <| g_region ?_
   refine g_fa ?_
   refine g_ld ?_
   refine g_mv ?_
   refine g_call (Hin := []) (Hr := ?hr5) (R := ?rr5) rfl rfl rfl ?hin5 ?hc5 ?hk5
   case hin5 => repeat' (first | exact Cover.nil | exact Take.here | apply Cover.cons | apply Take.there)
   case hc5 => intro ρ' hρ hR; exact rwi_ok i.2.1 1 x0.2.2.2.1 hg64
   rintro _ _ ⟨rfl, rfl⟩
   refine g_mv ?_
   refine g_splitd rfl rfl (fun h7 => ?_) (fun h7 => ?_)
   ·refine g_yesA ?_
    refine g_fa ?_
    refine g_yesA ?_
    refine g_ld ?_
    refine g_yesA ?_
    refine g_mv ?_
    refine g_yesA ?_
    refine g_call (Hin := []) (Hr := ?hr6) (R := ?rr6) rfl rfl rfl ?hin6 ?hc6 ?hk6
    case hin6 => repeat' (first | exact Cover.nil | exact Take.here | apply Cover.cons | apply Take.there)
    case hc6 => intro ρ' hρ hR; exact rwi_ok i.2.2.1 1 x0.2.2.2.1 hg64
    rintro _ _ ⟨rfl, rfl⟩
    first | refine g_pkt ?_ | refine g_pkf ?_
    refine g_as ?_
    refine g_nil <| g_qt <| g_ret <| g_qb_ret <| g_qt_ret ?_
    refine g_post (rs := [.tmp 6]) rfl (.tmp rfl .nil) ⟨?_, rfl⟩ (by repeat' (first | exact Cover.nil | exact Take.here | apply Cover.cons | apply Take.there))
    (first | rw [d1 (by omega)] | rw [d2 (by omega)] | rw [d3 (by omega)] | rw [d4 (by omega)] | rw [d6 (by omega)] | rw [d8 (by omega)] | rw [d9 (by omega)] | rw [d10 (by omega)] | rw [dE (by omega) (by omega)])
    (first | rfl | exact congrArg Value.bool (decide_eq_false (by omega)).symm | exact congrArg Value.bool (decide_eq_true (by omega)).symm | exact congrArg Value.bool (decide_eq_decide.2 (by omega)))
   ·refine g_noA ?_
    refine g_noA ?_
    refine g_noA ?_
    refine g_noA ?_
    first | refine g_pkt ?_ | refine g_pkf ?_
    refine g_as ?_
    refine g_nil <| g_qt <| g_ret <| g_qb_ret <| g_qt_ret ?_
    refine g_post (rs := [.tmp 6]) rfl (.tmp rfl .nil) ⟨?_, rfl⟩ (by repeat' (first | exact Cover.nil | exact Take.here | apply Cover.cons | apply Take.there))
    (first | rw [d1 (by omega)] | rw [d2 (by omega)] | rw [d3 (by omega)] | rw [d4 (by omega)] | rw [d6 (by omega)] | rw [d8 (by omega)] | rw [d9 (by omega)] | rw [d10 (by omega)] | rw [dE (by omega) (by omega)])
    (first | rfl | exact congrArg Value.bool (decide_eq_false (by omega)).symm | exact congrArg Value.bool (decide_eq_true (by omega)).symm | exact congrArg Value.bool (decide_eq_decide.2 (by omega)))
  ·refine g_region ?_
   refine g_pure (p_eql rfl rfl) rfl ?_
   refine g_as ?_
   refine g_nil <| g_qt ?_
   refine g_ifdL rfl (fun h8 => ?_) (fun h8 => ?_)
   ·refine g_seq <| g_region ?_
    refine g_fa ?_
    refine g_ld ?_
    refine g_mv ?_
    refine g_call (Hin := []) (Hr := ?hr7) (R := ?rr7) rfl rfl rfl ?hin7 ?hc7 ?hk7
    case hin7 => repeat' (first | exact Cover.nil | exact Take.here | apply Cover.cons | apply Take.there)
    case hc7 => intro ρ' hρ hR; exact rwi_ok i.2.1 1 x0.2.2.2.1 hg64
    rintro _ _ ⟨rfl, rfl⟩
    refine g_mv ?_
    refine g_splitd rfl rfl (fun h9 => ?_) (fun h9 => ?_)
    ·refine g_yesA ?_
     refine g_fa ?_
     refine g_yesA ?_
     refine g_ld ?_
     refine g_yesA ?_
     refine g_mv ?_
     refine g_yesA ?_
     refine g_call (Hin := []) (Hr := ?hr8) (R := ?rr8) rfl rfl rfl ?hin8 ?hc8 ?hk8
     case hin8 => repeat' (first | exact Cover.nil | exact Take.here | apply Cover.cons | apply Take.there)
     case hc8 => intro ρ' hρ hR; exact rwi_ok i.2.2.1 1 x0.2.2.2.1 hg64
     rintro _ _ ⟨rfl, rfl⟩
     first | refine g_pkt ?_ | refine g_pkf ?_
     refine g_as ?_
     refine g_nil <| g_qt <| g_ret <| g_qb_ret <| g_qt_ret ?_
     refine g_post (rs := [.tmp 6]) rfl (.tmp rfl .nil) ⟨?_, rfl⟩ (by repeat' (first | exact Cover.nil | exact Take.here | apply Cover.cons | apply Take.there))
     (first | rw [d1 (by omega)] | rw [d2 (by omega)] | rw [d3 (by omega)] | rw [d4 (by omega)] | rw [d6 (by omega)] | rw [d8 (by omega)] | rw [d9 (by omega)] | rw [d10 (by omega)] | rw [dE (by omega) (by omega)])
     (first | rfl | exact congrArg Value.bool (decide_eq_false (by omega)).symm | exact congrArg Value.bool (decide_eq_true (by omega)).symm | exact congrArg Value.bool (decide_eq_decide.2 (by omega)))
    ·refine g_noA ?_
     refine g_noA ?_
     refine g_noA ?_
     refine g_noA ?_
     first | refine g_pkt ?_ | refine g_pkf ?_
     refine g_as ?_
     refine g_nil <| g_qt <| g_ret <| g_qb_ret <| g_qt_ret ?_
     refine g_post (rs := [.tmp 6]) rfl (.tmp rfl .nil) ⟨?_, rfl⟩ (by repeat' (first | exact Cover.nil | exact Take.here | apply Cover.cons | apply Take.there))
     (first | rw [d1 (by omega)] | rw [d2 (by omega)] | rw [d3 (by omega)] | rw [d4 (by omega)] | rw [d6 (by omega)] | rw [d8 (by omega)] | rw [d9 (by omega)] | rw [d10 (by omega)] | rw [dE (by omega) (by omega)])
     (first | rfl | exact congrArg Value.bool (decide_eq_false (by omega)).symm | exact congrArg Value.bool (decide_eq_true (by omega)).symm | exact congrArg Value.bool (decide_eq_decide.2 (by omega)))
   ·refine g_seq <| g_region ?_
    refine g_pure (p_eql rfl rfl) rfl ?_
    refine g_as ?_
    refine g_nil <| g_qt ?_
    refine g_ifdL rfl (fun h10 => ?_) (fun h10 => ?_)
    ·refine g_seq <| g_region ?_
     refine g_fa ?_
     refine g_ld ?_
     refine g_mv ?_
     refine g_call (Hin := []) (Hr := ?hr9) (R := ?rr9) rfl rfl rfl ?hin9 ?hc9 ?hk9
     case hin9 => repeat' (first | exact Cover.nil | exact Take.here | apply Cover.cons | apply Take.there)
     case hc9 => intro ρ' hρ hR; exact rwi_ok i.2.1 1 x0.2.2.2.1 hg64
     rintro _ _ ⟨rfl, rfl⟩
     refine g_mv ?_
     refine g_splitd rfl rfl (fun h11 => ?_) (fun h11 => ?_)
     ·refine g_yesA ?_
      refine g_fa ?_
      refine g_yesA ?_
      refine g_ld ?_
      refine g_yesA ?_
      refine g_mv ?_
      refine g_yesA ?_
      refine g_call (Hin := []) (Hr := ?hr10) (R := ?rr10) rfl rfl rfl ?hin10 ?hc10 ?hk10
      case hin10 => repeat' (first | exact Cover.nil | exact Take.here | apply Cover.cons | apply Take.there)
      case hc10 => intro ρ' hρ hR; exact rwi_ok i.2.2.1 1 (x0.2.2.2.2.1.length : Int) (by unfold I64; omega)
      rintro _ _ ⟨rfl, rfl⟩
      first | refine g_pkt ?_ | refine g_pkf ?_
      refine g_as ?_
      refine g_nil <| g_qt <| g_ret <| g_qb_ret <| g_qt_ret ?_
      refine g_post (rs := [.tmp 6]) rfl (.tmp rfl .nil) ⟨?_, rfl⟩ (by repeat' (first | exact Cover.nil | exact Take.here | apply Cover.cons | apply Take.there))
      (first | rw [d1 (by omega)] | rw [d2 (by omega)] | rw [d3 (by omega)] | rw [d4 (by omega)] | rw [d6 (by omega)] | rw [d8 (by omega)] | rw [d9 (by omega)] | rw [d10 (by omega)] | rw [dE (by omega) (by omega)])
      (first | rfl | exact congrArg Value.bool (decide_eq_false (by omega)).symm | exact congrArg Value.bool (decide_eq_true (by omega)).symm | exact congrArg Value.bool (decide_eq_decide.2 (by omega)))
     ·refine g_noA ?_
      refine g_noA ?_
      refine g_noA ?_
      refine g_noA ?_
      first | refine g_pkt ?_ | refine g_pkf ?_
      refine g_as ?_
      refine g_nil <| g_qt <| g_ret <| g_qb_ret <| g_qt_ret ?_
      refine g_post (rs := [.tmp 6]) rfl (.tmp rfl .nil) ⟨?_, rfl⟩ (by repeat' (first | exact Cover.nil | exact Take.here | apply Cover.cons | apply Take.there))
      (first | rw [d1 (by omega)] | rw [d2 (by omega)] | rw [d3 (by omega)] | rw [d4 (by omega)] | rw [d6 (by omega)] | rw [d8 (by omega)] | rw [d9 (by omega)] | rw [d10 (by omega)] | rw [dE (by omega) (by omega)])
      (first | rfl | exact congrArg Value.bool (decide_eq_false (by omega)).symm | exact congrArg Value.bool (decide_eq_true (by omega)).symm | exact congrArg Value.bool (decide_eq_decide.2 (by omega)))
    ·refine g_seq <| g_region ?_
     refine g_pure (p_eql rfl rfl) rfl ?_
     refine g_as ?_
     refine g_nil <| g_qt ?_
     refine g_ifdL rfl (fun h12 => ?_) (fun h12 => ?_)
     ·refine g_seq <| g_region ?_
      refine g_fa ?_
      refine g_ld ?_
      refine g_mv ?_
      refine g_call (Hin := []) (Hr := ?hr11) (R := ?rr11) rfl rfl rfl ?hin11 ?hc11 ?hk11
      case hin11 => repeat' (first | exact Cover.nil | exact Take.here | apply Cover.cons | apply Take.there)
      case hc11 => intro ρ' hρ hR; exact rwi_ok i.2.1 1 (x0.2.2.2.2.1.length : Int) (by unfold I64; omega)
      rintro _ _ ⟨rfl, rfl⟩
      refine g_mv ?_
      refine g_splitd rfl rfl (fun h13 => ?_) (fun h13 => ?_)
      ·refine g_yesA ?_
       refine g_fa ?_
       refine g_yesA ?_
       refine g_ld ?_
       refine g_yesA ?_
       refine g_mv ?_
       refine g_yesA ?_
       refine g_call (Hin := []) (Hr := ?hr12) (R := ?rr12) rfl rfl rfl ?hin12 ?hc12 ?hk12
       case hin12 => repeat' (first | exact Cover.nil | exact Take.here | apply Cover.cons | apply Take.there)
       case hc12 => intro ρ' hρ hR; exact rwi_ok i.2.2.1 1 x0.2.2.2.1 hg64
       rintro _ _ ⟨rfl, rfl⟩
       first | refine g_pkt ?_ | refine g_pkf ?_
       refine g_as ?_
       refine g_nil <| g_qt <| g_ret <| g_qb_ret <| g_qt_ret ?_
       refine g_post (rs := [.tmp 6]) rfl (.tmp rfl .nil) ⟨?_, rfl⟩ (by repeat' (first | exact Cover.nil | exact Take.here | apply Cover.cons | apply Take.there))
       (first | rw [d1 (by omega)] | rw [d2 (by omega)] | rw [d3 (by omega)] | rw [d4 (by omega)] | rw [d6 (by omega)] | rw [d8 (by omega)] | rw [d9 (by omega)] | rw [d10 (by omega)] | rw [dE (by omega) (by omega)])
       (first | rfl | exact congrArg Value.bool (decide_eq_false (by omega)).symm | exact congrArg Value.bool (decide_eq_true (by omega)).symm | exact congrArg Value.bool (decide_eq_decide.2 (by omega)))
      ·refine g_noA ?_
       refine g_noA ?_
       refine g_noA ?_
       refine g_noA ?_
       first | refine g_pkt ?_ | refine g_pkf ?_
       refine g_as ?_
       refine g_nil <| g_qt <| g_ret <| g_qb_ret <| g_qt_ret ?_
       refine g_post (rs := [.tmp 6]) rfl (.tmp rfl .nil) ⟨?_, rfl⟩ (by repeat' (first | exact Cover.nil | exact Take.here | apply Cover.cons | apply Take.there))
       (first | rw [d1 (by omega)] | rw [d2 (by omega)] | rw [d3 (by omega)] | rw [d4 (by omega)] | rw [d6 (by omega)] | rw [d8 (by omega)] | rw [d9 (by omega)] | rw [d10 (by omega)] | rw [dE (by omega) (by omega)])
       (first | rfl | exact congrArg Value.bool (decide_eq_false (by omega)).symm | exact congrArg Value.bool (decide_eq_true (by omega)).symm | exact congrArg Value.bool (decide_eq_decide.2 (by omega)))
     ·refine g_seq <| g_region ?_
      refine g_pure (p_eql rfl rfl) rfl ?_
      refine g_as ?_
      refine g_nil <| g_qt ?_
      refine g_ifdL rfl (fun h14 => ?_) (fun h14 => ?_)
      ·refine g_seq <| g_region ?_
       refine g_fa ?_
       refine g_ld ?_
       refine g_mv ?_
       refine g_call (Hin := []) (Hr := ?hr13) (R := ?rr13) rfl rfl rfl ?hin13 ?hc13 ?hk13
       case hin13 => repeat' (first | exact Cover.nil | exact Take.here | apply Cover.cons | apply Take.there)
       case hc13 => intro ρ' hρ hR; exact rwi_ok i.2.1 1 x0.2.2.2.1 hg64
       rintro _ _ ⟨rfl, rfl⟩
       refine g_mv ?_
       refine g_splitd rfl rfl (fun h15 => ?_) (fun h15 => ?_)
       ·refine g_yesA ?_
        refine g_fa ?_
        refine g_yesA ?_
        refine g_ld ?_
        refine g_yesA ?_
        refine g_mv ?_
        refine g_yesA ?_
        refine g_call (Hin := []) (Hr := ?hr14) (R := ?rr14) rfl rfl rfl ?hin14 ?hc14 ?hk14
        case hin14 => repeat' (first | exact Cover.nil | exact Take.here | apply Cover.cons | apply Take.there)
        case hc14 => intro ρ' hρ hR; exact rwi_ok i.2.2.1 1 x0.2.2.2.1 hg64
        rintro _ _ ⟨rfl, rfl⟩
        first | refine g_pkt ?_ | refine g_pkf ?_
        refine g_mv ?_
        refine g_splitd rfl rfl (fun h16 => ?_) (fun h16 => ?_)
        ·refine g_yesA ?_
         refine g_fa ?_
         refine g_yesA ?_
         refine g_ld ?_
         refine g_yesA ?_
         refine g_mv ?_
         refine g_yesA ?_
         refine g_call (Hin := []) (Hr := ?hr15) (R := ?rr15) rfl rfl rfl ?hin15 ?hc15 ?hk15
         case hin15 => repeat' (first | exact Cover.nil | exact Take.here | apply Cover.cons | apply Take.there)
         case hc15 => intro ρ' hρ hR; exact rwi_ok i.2.2.2.1 1 x0.2.2.2.1 hg64
         rintro _ _ ⟨rfl, rfl⟩
         first | refine g_pkt ?_ | refine g_pkf ?_
         refine g_as ?_
         refine g_nil <| g_qt <| g_ret <| g_qb_ret <| g_qt_ret ?_
         refine g_post (rs := [.tmp 6]) rfl (.tmp rfl .nil) ⟨?_, rfl⟩ (by repeat' (first | exact Cover.nil | exact Take.here | apply Cover.cons | apply Take.there))
         (first | rw [d1 (by omega)] | rw [d2 (by omega)] | rw [d3 (by omega)] | rw [d4 (by omega)] | rw [d6 (by omega)] | rw [d8 (by omega)] | rw [d9 (by omega)] | rw [d10 (by omega)] | rw [dE (by omega) (by omega)])
         (first | rfl | exact congrArg Value.bool (decide_eq_false (by omega)).symm | exact congrArg Value.bool (decide_eq_true (by omega)).symm | exact congrArg Value.bool (decide_eq_decide.2 (by omega)))
        ·refine g_noA ?_
         refine g_noA ?_
         refine g_noA ?_
         refine g_noA ?_
         first | refine g_pkt ?_ | refine g_pkf ?_
         refine g_as ?_
         refine g_nil <| g_qt <| g_ret <| g_qb_ret <| g_qt_ret ?_
         refine g_post (rs := [.tmp 6]) rfl (.tmp rfl .nil) ⟨?_, rfl⟩ (by repeat' (first | exact Cover.nil | exact Take.here | apply Cover.cons | apply Take.there))
         (first | rw [d1 (by omega)] | rw [d2 (by omega)] | rw [d3 (by omega)] | rw [d4 (by omega)] | rw [d6 (by omega)] | rw [d8 (by omega)] | rw [d9 (by omega)] | rw [d10 (by omega)] | rw [dE (by omega) (by omega)])
         (first | rfl | exact congrArg Value.bool (decide_eq_false (by omega)).symm | exact congrArg Value.bool (decide_eq_true (by omega)).symm | exact congrArg Value.bool (decide_eq_decide.2 (by omega)))
       ·refine g_noA ?_
        refine g_noA ?_
        refine g_noA ?_
        refine g_noA ?_
        first | refine g_pkt ?_ | refine g_pkf ?_
        refine g_mv ?_
        refine g_noA ?_
        refine g_noA ?_
        refine g_noA ?_
        refine g_noA ?_
        first | refine g_pkt ?_ | refine g_pkf ?_
        refine g_as ?_
        refine g_nil <| g_qt <| g_ret <| g_qb_ret <| g_qt_ret ?_
        refine g_post (rs := [.tmp 6]) rfl (.tmp rfl .nil) ⟨?_, rfl⟩ (by repeat' (first | exact Cover.nil | exact Take.here | apply Cover.cons | apply Take.there))
        (first | rw [d1 (by omega)] | rw [d2 (by omega)] | rw [d3 (by omega)] | rw [d4 (by omega)] | rw [d6 (by omega)] | rw [d8 (by omega)] | rw [d9 (by omega)] | rw [d10 (by omega)] | rw [dE (by omega) (by omega)])
        (first | rfl | exact congrArg Value.bool (decide_eq_false (by omega)).symm | exact congrArg Value.bool (decide_eq_true (by omega)).symm | exact congrArg Value.bool (decide_eq_decide.2 (by omega)))
      ·refine g_seq <| g_region ?_
       refine g_pure (p_eql rfl rfl) rfl ?_
       refine g_as ?_
       refine g_nil <| g_qt ?_
       refine g_ifdL rfl (fun h18 => ?_) (fun h18 => ?_)
       ·refine g_seq <| g_region ?_
        refine g_fa ?_
        refine g_ld ?_
        refine g_mv ?_
        refine g_call (Hin := []) (Hr := ?hr16) (R := ?rr16) rfl rfl rfl ?hin16 ?hc16 ?hk16
        case hin16 => repeat' (first | exact Cover.nil | exact Take.here | apply Cover.cons | apply Take.there)
        case hc16 => intro ρ' hρ hR; exact rwi_ok i.2.1 1 x0.2.2.2.1 hg64
        rintro _ _ ⟨rfl, rfl⟩
        refine g_as ?_
        refine g_nil <| g_qt <| g_ret <| g_qb_ret <| g_qt_ret ?_
        refine g_post (rs := [.tmp 6]) rfl (.tmp rfl .nil) ⟨?_, rfl⟩ (by repeat' (first | exact Cover.nil | exact Take.here | apply Cover.cons | apply Take.there))
        (first | rw [d1 (by omega)] | rw [d2 (by omega)] | rw [d3 (by omega)] | rw [d4 (by omega)] | rw [d6 (by omega)] | rw [d8 (by omega)] | rw [d9 (by omega)] | rw [d10 (by omega)] | rw [dE (by omega) (by omega)])
        (first | rfl | exact congrArg Value.bool (decide_eq_false (by omega)).symm | exact congrArg Value.bool (decide_eq_true (by omega)).symm | exact congrArg Value.bool (decide_eq_decide.2 (by omega)))
       ·refine g_seq <| g_seq <| g_region ?_
        refine g_pure (p_eql rfl rfl) rfl ?_
        refine g_as ?_
        refine g_nil <| g_qt ?_
        refine g_ifdL rfl (fun h19 => ?_) (fun h19 => ?_)
        ·refine g_skip <| g_qt ?_
         refine g_ift rfl ?_
         refine g_seq <| g_seq <| g_region ?_
         refine g_fa ?_
         refine g_ld ?_
         refine g_pure (p_lss rfl rfl) rfl ?_
         refine g_mv ?_
         refine g_splitd rfl rfl (fun h21 => ?_) (fun h21 => ?_)
         ·refine g_noA ?_
          refine g_noA ?_
          refine g_noA ?_
          refine g_noA ?_
          first | refine g_pkt ?_ | refine g_pkf ?_
          refine g_nil <| g_qt ?_
          refine g_ift rfl ?_
          refine g_seq <| g_region ?_
          refine g_as ?_
          refine g_nil <| g_qt <| g_ret <| g_qt_ret <| g_qb_ret <| g_qt_ret ?_
          refine g_post (rs := [.tmp 6]) rfl (.tmp rfl .nil) ⟨?_, rfl⟩ (by repeat' (first | exact Cover.nil | exact Take.here | apply Cover.cons | apply Take.there))
          (first | rw [d1 (by omega)] | rw [d2 (by omega)] | rw [d3 (by omega)] | rw [d4 (by omega)] | rw [d6 (by omega)] | rw [d8 (by omega)] | rw [d9 (by omega)] | rw [d10 (by omega)] | rw [dE (by omega) (by omega)])
          (first | rfl | exact congrArg Value.bool (decide_eq_false (by omega)).symm | exact congrArg Value.bool (decide_eq_true (by omega)).symm | exact congrArg Value.bool (decide_eq_decide.2 (by omega)))
         ·refine g_yesA ?_
          refine g_fa ?_
          refine g_yesA ?_
          refine g_ld ?_
          refine g_yesA ?_
          refine g_mv ?_
          refine g_yesA ?_
          refine g_pure (p_geq rfl rfl) rfl ?_
          first | refine g_pkt ?_ | refine g_pkf ?_
          refine g_nil <| g_qt ?_
          refine g_ifdL rfl (fun h23 => ?_) (fun h23 => ?_)
          ·refine g_seq <| g_region ?_
           refine g_as ?_
           refine g_nil <| g_qt <| g_ret <| g_qt_ret <| g_qb_ret <| g_qt_ret ?_
           refine g_post (rs := [.tmp 6]) rfl (.tmp rfl .nil) ⟨?_, rfl⟩ (by repeat' (first | exact Cover.nil | exact Take.here | apply Cover.cons | apply Take.there))
           (first | rw [d1 (by omega)] | rw [d2 (by omega)] | rw [d3 (by omega)] | rw [d4 (by omega)] | rw [d6 (by omega)] | rw [d8 (by omega)] | rw [d9 (by omega)] | rw [d10 (by omega)] | rw [dE (by omega) (by omega)])
           (first | rfl | exact congrArg Value.bool (decide_eq_false (by omega)).symm | exact congrArg Value.bool (decide_eq_true (by omega)).symm | exact congrArg Value.bool (decide_eq_decide.2 (by omega)))
          ·refine g_skip <| g_qt <| g_seq <| g_region ?_
           refine g_fa ?_
           refine g_ld ?_
           refine g_fa ?_
           refine g_ld ?_
           refine g_pure (p_indexAddr rfl rfl (by omega) (fun _ => r1)) rfl ?_
           refine g_pure (p_loadN (by rfl) rfl (Has.ro r2) (hrow ⟨by omega, by omega⟩)) rfl ?_
           refine g_eff (e_alloc (by rfl)) rfl (fun _ _ => ?_)
           rintro ⟨b10, rfl, rfl⟩
           first | refine g_eff0 (e_storeO rfl rfl (by rfl) (by rfl) (by rfl) (by repeat' (first | exact Take.here | apply Take.there)) (by rfl)) (fun _ _ => ?_) | refine g_eff0 (e_storeN rfl rfl (by rfl) (by rfl) (by rfl) (by repeat' (first | exact Take.here | apply Take.there)) (by simp)) (fun _ _ => ?_)
           rintro rfl
           refine g_nil <| g_qt <| g_seq <| g_seq <| g_region ?_
           refine g_fa ?_
           refine g_ld ?_
           refine g_fa ?_
           refine g_ld ?_
           refine g_pure (p_len (by rfl) rfl) rfl ?_
           refine g_mv ?_
           refine g_call (Hin := []) (Hr := ?hr17) (R := ?rr17) rfl rfl rfl ?hin17 ?hc17 ?hk17
           case hin17 => repeat' (first | exact Cover.nil | exact Take.here | apply Cover.cons | apply Take.there)
           case hc17 => intro ρ' hρ hR; exact rwi_ok i.2.2.1 (y.2.2.2.2.1.length : Int) (x0.2.2.2.2.1.length : Int) (by unfold I64; omega)
           rintro _ _ ⟨rfl, rfl⟩
           refine g_pure (p_not rfl) rfl ?_
           refine g_nil <| g_qt ?_
           refine g_ifndL rfl (fun h24 => ?_) (fun h24 => ?_)
           ·refine g_seq <| g_region ?_
            refine g_as ?_
            refine g_nil <| g_qt <| g_ret <| g_qt_ret <| g_qb_ret <| g_qt_ret ?_
            refine g_post (rs := [.tmp 6]) rfl (.tmp rfl .nil) ⟨?_, rfl⟩ (by repeat' (first | exact Cover.nil | exact Take.here | apply Cover.cons | apply Take.there))
            (first | rw [d1 (by omega)] | rw [d2 (by omega)] | rw [d3 (by omega)] | rw [d4 (by omega)] | rw [d6 (by omega)] | rw [d8 (by omega)] | rw [d9 (by omega)] | rw [d10 (by omega)] | rw [dE (by omega) (by omega)])
            (first | rfl | exact congrArg Value.bool (decide_eq_false (by omega)).symm | exact congrArg Value.bool (decide_eq_true (by omega)).symm | exact congrArg Value.bool (decide_eq_decide.2 (by omega)))
           ·refine g_skip <| g_qt <| g_seq <| g_region ?_
            refine g_fa ?_
            refine g_ld ?_
            refine g_pure (p_eql rfl rfl) rfl ?_
            refine g_mv ?_
            refine g_splitd rfl rfl (fun h25 => ?_) (fun h25 => ?_)
            ·refine g_noA ?_
             refine g_noA ?_
             refine g_noA ?_
             refine g_noA ?_
             refine g_noA ?_
             refine g_noA ?_
             refine g_noA ?_
             refine g_noA ?_
             refine g_nou rfl rfl rfl ?_
             refine g_nou rfl rfl rfl ?_
             refine g_nou rfl rfl rfl ?_
             refine g_nou rfl rfl rfl ?_
             refine g_nou rfl rfl rfl ?_
             refine g_nou rfl rfl rfl ?_
             refine g_nou rfl rfl rfl ?_
             refine g_noA ?_
             first | refine g_pkt ?_ | refine g_pkf ?_
             refine g_as ?_
             refine g_nil <| g_qt <| g_ret <| g_qb_ret <| g_qt_ret ?_
             refine g_post (rs := [.tmp 6]) rfl (.tmp rfl .nil) ⟨?_, rfl⟩ (by repeat' (first | exact Cover.nil | exact Take.here | apply Cover.cons | apply Take.there))
             (first | rw [d1 (by omega)] | rw [d2 (by omega)] | rw [d3 (by omega)] | rw [d4 (by omega)] | rw [d6 (by omega)] | rw [d8 (by omega)] | rw [d9 (by omega)] | rw [d10 (by omega)] | rw [dE (by omega) (by omega)])
             (first | rfl | exact congrArg Value.bool (decide_eq_false (by omega)).symm | exact congrArg Value.bool (decide_eq_true (by omega)).symm | exact congrArg Value.bool (decide_eq_decide.2 (by omega)))
            ·refine g_yesA ?_
             refine g_fa ?_
             refine g_yesA ?_
             refine g_ld ?_
             refine g_yesA ?_
             refine g_fa ?_
             refine g_yesA ?_
             refine g_ld ?_
             refine g_yesA ?_
             refine g_pure (p_len (by rfl) rfl) rfl ?_
             refine g_yesA ?_
             refine g_mv ?_
             refine g_yesA ?_
             refine g_call (Hin := []) (Hr := ?hr18) (R := ?rr18) rfl rfl rfl ?hin18 ?hc18 ?hk18
             case hin18 => repeat' (first | exact Cover.nil | exact Take.here | apply Cover.cons | apply Take.there)
             case hc18 => intro ρ' hρ hR; exact rwi_ok i.2.2.2.1 (y.2.1.length : Int) x0.2.2.2.1 hg64
             rintro _ _ ⟨rfl, rfl⟩
             refine g_yesA ?_
             refine g_mv ?_
             refine g_splitd rfl rfl (fun h27 => ?_) (fun h27 => ?_)
             ·refine g_yesA ?_
              refine g_fa ?_
              refine g_yesA ?_
              refine g_ld ?_
              refine g_yesA ?_
              refine g_fa ?_
              refine g_yesA ?_
              refine g_ld ?_
              refine g_yesA ?_
              refine g_pure (p_len (by rfl) rfl) rfl ?_
              refine g_yesA ?_
              refine g_mv ?_
              refine g_yesA ?_
              refine g_call (Hin := []) (Hr := ?hr19) (R := ?rr19) rfl rfl rfl ?hin19 ?hc19 ?hk19
              case hin19 => repeat' (first | exact Cover.nil | exact Take.here | apply Cover.cons | apply Take.there)
              case hc19 => intro ρ' hρ hR; exact rwi_ok i.2.2.2.2 (y.2.2.1.length : Int) x0.2.2.2.1 hg64
              rintro _ _ ⟨rfl, rfl⟩
              refine g_yesA ?_
              first | refine g_pkt ?_ | refine g_pkf ?_
              first | refine g_pkt ?_ | refine g_pkf ?_
              refine g_as ?_
              refine g_nil <| g_qt <| g_ret <| g_qb_ret <| g_qt_ret ?_
              refine g_post (rs := [.tmp 6]) rfl (.tmp rfl .nil) ⟨?_, rfl⟩ (by repeat' (first | exact Cover.nil | exact Take.here | apply Cover.cons | apply Take.there))
              (first | rw [d1 (by omega)] | rw [d2 (by omega)] | rw [d3 (by omega)] | rw [d4 (by omega)] | rw [d6 (by omega)] | rw [d8 (by omega)] | rw [d9 (by omega)] | rw [d10 (by omega)] | rw [dE (by omega) (by omega)])
              (first | rfl | exact congrArg Value.bool (decide_eq_false (by omega)).symm | exact congrArg Value.bool (decide_eq_true (by omega)).symm | exact congrArg Value.bool (decide_eq_decide.2 (by omega)))
             ·refine g_noA ?_
              refine g_noA ?_
              refine g_noA ?_
              refine g_noA ?_
              refine g_noA ?_
              refine g_noA ?_
              refine g_noA ?_
              refine g_yesA ?_
              first | refine g_pkt ?_ | refine g_pkf ?_
              first | refine g_pkt ?_ | refine g_pkf ?_
              refine g_as ?_
              refine g_nil <| g_qt <| g_ret <| g_qb_ret <| g_qt_ret ?_
              refine g_post (rs := [.tmp 6]) rfl (.tmp rfl .nil) ⟨?_, rfl⟩ (by repeat' (first | exact Cover.nil | exact Take.here | apply Cover.cons | apply Take.there))
              (first | rw [d1 (by omega)] | rw [d2 (by omega)] | rw [d3 (by omega)] | rw [d4 (by omega)] | rw [d6 (by omega)] | rw [d8 (by omega)] | rw [d9 (by omega)] | rw [d10 (by omega)] | rw [dE (by omega) (by omega)])
              (first | rfl | exact congrArg Value.bool (decide_eq_false (by omega)).symm | exact congrArg Value.bool (decide_eq_true (by omega)).symm | exact congrArg Value.bool (decide_eq_decide.2 (by omega)))
        ·refine g_region ?_
         refine g_pure (p_eql rfl rfl) rfl ?_
         refine g_as ?_
         refine g_nil <| g_qt ?_
         refine g_ifdL rfl (fun h28 => ?_) (fun h28 => ?_)
         ·refine g_seq <| g_seq <| g_region ?_
          refine g_fa ?_
          refine g_ld ?_
          refine g_pure (p_lss rfl rfl) rfl ?_
          refine g_mv ?_
          refine g_splitd rfl rfl (fun h29 => ?_) (fun h29 => ?_)
          ·refine g_noA ?_
           refine g_noA ?_
           refine g_noA ?_
           refine g_noA ?_
           first | refine g_pkt ?_ | refine g_pkf ?_
           refine g_nil <| g_qt ?_
           refine g_ift rfl ?_
           refine g_seq <| g_region ?_
           refine g_as ?_
           refine g_nil <| g_qt <| g_ret <| g_qt_ret <| g_qb_ret <| g_qt_ret ?_
           refine g_post (rs := [.tmp 6]) rfl (.tmp rfl .nil) ⟨?_, rfl⟩ (by repeat' (first | exact Cover.nil | exact Take.here | apply Cover.cons | apply Take.there))
           (first | rw [d1 (by omega)] | rw [d2 (by omega)] | rw [d3 (by omega)] | rw [d4 (by omega)] | rw [d6 (by omega)] | rw [d8 (by omega)] | rw [d9 (by omega)] | rw [d10 (by omega)] | rw [dE (by omega) (by omega)])
           (first | rfl | exact congrArg Value.bool (decide_eq_false (by omega)).symm | exact congrArg Value.bool (decide_eq_true (by omega)).symm | exact congrArg Value.bool (decide_eq_decide.2 (by omega)))
          ·refine g_yesA ?_
           refine g_fa ?_
           refine g_yesA ?_
           refine g_ld ?_
           refine g_yesA ?_
           refine g_mv ?_
           refine g_yesA ?_
           refine g_pure (p_geq rfl rfl) rfl ?_
           first | refine g_pkt ?_ | refine g_pkf ?_
           refine g_nil <| g_qt ?_
           refine g_ifdL rfl (fun h31 => ?_) (fun h31 => ?_)
           ·refine g_seq <| g_region ?_
            refine g_as ?_
            refine g_nil <| g_qt <| g_ret <| g_qt_ret <| g_qb_ret <| g_qt_ret ?_
            refine g_post (rs := [.tmp 6]) rfl (.tmp rfl .nil) ⟨?_, rfl⟩ (by repeat' (first | exact Cover.nil | exact Take.here | apply Cover.cons | apply Take.there))
            (first | rw [d1 (by omega)] | rw [d2 (by omega)] | rw [d3 (by omega)] | rw [d4 (by omega)] | rw [d6 (by omega)] | rw [d8 (by omega)] | rw [d9 (by omega)] | rw [d10 (by omega)] | rw [dE (by omega) (by omega)])
            (first | rfl | exact congrArg Value.bool (decide_eq_false (by omega)).symm | exact congrArg Value.bool (decide_eq_true (by omega)).symm | exact congrArg Value.bool (decide_eq_decide.2 (by omega)))
           ·refine g_skip <| g_qt <| g_seq <| g_region ?_
            refine g_fa ?_
            refine g_ld ?_
            refine g_fa ?_
            refine g_ld ?_
            refine g_pure (p_indexAddr rfl rfl (by omega) (fun _ => r1)) rfl ?_
            refine g_pure (p_loadN (by rfl) rfl (Has.ro r2) (hrow ⟨by omega, by omega⟩)) rfl ?_
            refine g_eff (e_alloc (by rfl)) rfl (fun _ _ => ?_)
            rintro ⟨b10, rfl, rfl⟩
            first | refine g_eff0 (e_storeO rfl rfl (by rfl) (by rfl) (by rfl) (by repeat' (first | exact Take.here | apply Take.there)) (by rfl)) (fun _ _ => ?_) | refine g_eff0 (e_storeN rfl rfl (by rfl) (by rfl) (by rfl) (by repeat' (first | exact Take.here | apply Take.there)) (by simp)) (fun _ _ => ?_)
            rintro rfl
            refine g_nil <| g_qt <| g_seq <| g_seq <| g_region ?_
            refine g_fa ?_
            refine g_ld ?_
            refine g_fa ?_
            refine g_ld ?_
            refine g_pure (p_len (by rfl) rfl) rfl ?_
            refine g_mv ?_
            refine g_call (Hin := []) (Hr := ?hr20) (R := ?rr20) rfl rfl rfl ?hin20 ?hc20 ?hk20
            case hin20 => repeat' (first | exact Cover.nil | exact Take.here | apply Cover.cons | apply Take.there)
            case hc20 => intro ρ' hρ hR; exact rwi_ok i.2.2.1 (y.2.2.2.2.1.length : Int) (x0.2.2.2.2.1.length : Int) (by unfold I64; omega)
            rintro _ _ ⟨rfl, rfl⟩
            refine g_pure (p_not rfl) rfl ?_
            refine g_nil <| g_qt ?_
            refine g_ifndL rfl (fun h32 => ?_) (fun h32 => ?_)
            ·refine g_seq <| g_region ?_
             refine g_as ?_
             refine g_nil <| g_qt <| g_ret <| g_qt_ret <| g_qb_ret <| g_qt_ret ?_
             refine g_post (rs := [.tmp 6]) rfl (.tmp rfl .nil) ⟨?_, rfl⟩ (by repeat' (first | exact Cover.nil | exact Take.here | apply Cover.cons | apply Take.there))
             (first | rw [d1 (by omega)] | rw [d2 (by omega)] | rw [d3 (by omega)] | rw [d4 (by omega)] | rw [d6 (by omega)] | rw [d8 (by omega)] | rw [d9 (by omega)] | rw [d10 (by omega)] | rw [dE (by omega) (by omega)])
             (first | rfl | exact congrArg Value.bool (decide_eq_false (by omega)).symm | exact congrArg Value.bool (decide_eq_true (by omega)).symm | exact congrArg Value.bool (decide_eq_decide.2 (by omega)))
            ·refine g_skip <| g_qt <| g_seq <| g_region ?_
             refine g_fa ?_
             refine g_ld ?_
             refine g_pure (p_eql rfl rfl) rfl ?_
             refine g_mv ?_
             refine g_splitd rfl rfl (fun h33 => ?_) (fun h33 => ?_)
             ·refine g_noA ?_
              refine g_noA ?_
              refine g_noA ?_
              refine g_noA ?_
              refine g_noA ?_
              refine g_noA ?_
              refine g_noA ?_
              refine g_noA ?_
              refine g_nou rfl rfl rfl ?_
              refine g_nou rfl rfl rfl ?_
              refine g_nou rfl rfl rfl ?_
              refine g_nou rfl rfl rfl ?_
              refine g_nou rfl rfl rfl ?_
              refine g_nou rfl rfl rfl ?_
              refine g_nou rfl rfl rfl ?_
              refine g_noA ?_
              first | refine g_pkt ?_ | refine g_pkf ?_
              refine g_as ?_
              refine g_nil <| g_qt <| g_ret <| g_qb_ret <| g_qt_ret ?_
              refine g_post (rs := [.tmp 6]) rfl (.tmp rfl .nil) ⟨?_, rfl⟩ (by repeat' (first | exact Cover.nil | exact Take.here | apply Cover.cons | apply Take.there))
              (first | rw [d1 (by omega)] | rw [d2 (by omega)] | rw [d3 (by omega)] | rw [d4 (by omega)] | rw [d6 (by omega)] | rw [d8 (by omega)] | rw [d9 (by omega)] | rw [d10 (by omega)] | rw [dE (by omega) (by omega)])
              (first | rfl | exact congrArg Value.bool (decide_eq_false (by omega)).symm | exact congrArg Value.bool (decide_eq_true (by omega)).symm | exact congrArg Value.bool (decide_eq_decide.2 (by omega)))
             ·refine g_yesA ?_
              refine g_fa ?_
              refine g_yesA ?_
              refine g_ld ?_
              refine g_yesA ?_
              refine g_fa ?_
              refine g_yesA ?_
              refine g_ld ?_
              refine g_yesA ?_
              refine g_pure (p_len (by rfl) rfl) rfl ?_
              refine g_yesA ?_
              refine g_mv ?_
              refine g_yesA ?_
              refine g_call (Hin := []) (Hr := ?hr21) (R := ?rr21) rfl rfl rfl ?hin21 ?hc21 ?hk21
              case hin21 => repeat' (first | exact Cover.nil | exact Take.here | apply Cover.cons | apply Take.there)
              case hc21 => intro ρ' hρ hR; exact rwi_ok i.2.2.2.1 (y.2.1.length : Int) x0.2.2.2.1 hg64
              rintro _ _ ⟨rfl, rfl⟩
              refine g_yesA ?_
              refine g_mv ?_
              refine g_splitd rfl rfl (fun h35 => ?_) (fun h35 => ?_)
              ·refine g_yesA ?_
               refine g_fa ?_
               refine g_yesA ?_
               refine g_ld ?_
               refine g_yesA ?_
               refine g_fa ?_
               refine g_yesA ?_
               refine g_ld ?_
               refine g_yesA ?_
               refine g_pure (p_len (by rfl) rfl) rfl ?_
               refine g_yesA ?_
               refine g_mv ?_
               refine g_yesA ?_
               refine g_call (Hin := []) (Hr := ?hr22) (R := ?rr22) rfl rfl rfl ?hin22 ?hc22 ?hk22
               case hin22 => repeat' (first | exact Cover.nil | exact Take.here | apply Cover.cons | apply Take.there)
               case hc22 => intro ρ' hρ hR; exact rwi_ok i.2.2.2.2 (y.2.2.1.length : Int) x0.2.2.2.1 hg64
               rintro _ _ ⟨rfl, rfl⟩
               refine g_yesA ?_
               first | refine g_pkt ?_ | refine g_pkf ?_
               first | refine g_pkt ?_ | refine g_pkf ?_
               refine g_as ?_
               refine g_nil <| g_qt <| g_ret <| g_qb_ret <| g_qt_ret ?_
               refine g_post (rs := [.tmp 6]) rfl (.tmp rfl .nil) ⟨?_, rfl⟩ (by repeat' (first | exact Cover.nil | exact Take.here | apply Cover.cons | apply Take.there))
               (first | rw [d1 (by omega)] | rw [d2 (by omega)] | rw [d3 (by omega)] | rw [d4 (by omega)] | rw [d6 (by omega)] | rw [d8 (by omega)] | rw [d9 (by omega)] | rw [d10 (by omega)] | rw [dE (by omega) (by omega)])
               (first | rfl | exact congrArg Value.bool (decide_eq_false (by omega)).symm | exact congrArg Value.bool (decide_eq_true (by omega)).symm | exact congrArg Value.bool (decide_eq_decide.2 (by omega)))
              ·refine g_noA ?_
               refine g_noA ?_
               refine g_noA ?_
               refine g_noA ?_
               refine g_noA ?_
               refine g_noA ?_
               refine g_noA ?_
               refine g_yesA ?_
               first | refine g_pkt ?_ | refine g_pkf ?_
               first | refine g_pkt ?_ | refine g_pkf ?_
               refine g_as ?_
               refine g_nil <| g_qt <| g_ret <| g_qb_ret <| g_qt_ret ?_
               refine g_post (rs := [.tmp 6]) rfl (.tmp rfl .nil) ⟨?_, rfl⟩ (by repeat' (first | exact Cover.nil | exact Take.here | apply Cover.cons | apply Take.there))
               (first | rw [d1 (by omega)] | rw [d2 (by omega)] | rw [d3 (by omega)] | rw [d4 (by omega)] | rw [d6 (by omega)] | rw [d8 (by omega)] | rw [d9 (by omega)] | rw [d10 (by omega)] | rw [dE (by omega) (by omega)])
               (first | rfl | exact congrArg Value.bool (decide_eq_false (by omega)).symm | exact congrArg Value.bool (decide_eq_true (by omega)).symm | exact congrArg Value.bool (decide_eq_decide.2 (by omega)))
         ·refine g_skip <| g_qb <| g_qt <| g_seq <| g_region ?_
          refine g_as ?_
          refine g_nil <| g_qt <| g_ret ?_
          refine g_post (rs := [.tmp 6]) rfl (.tmp rfl .nil) ⟨?_, rfl⟩ (by repeat' (first | exact Cover.nil | exact Take.here | apply Cover.cons | apply Take.there))
          (first | rw [d1 (by omega)] | rw [d2 (by omega)] | rw [d3 (by omega)] | rw [d4 (by omega)] | rw [d6 (by omega)] | rw [d8 (by omega)] | rw [d9 (by omega)] | rw [d10 (by omega)] | rw [dE (by omega) (by omega)])
          (first | rfl | exact congrArg Value.bool (decide_eq_false (by omega)).symm | exact congrArg Value.bool (decide_eq_true (by omega)).symm | exact congrArg Value.bool (decide_eq_decide.2 (by omega)))
end Go.Proofs.YtcnfcoojmbjdlaaGreatDoor
/- Chapter 26: the document's check of a routine and of an image. Conditions: none. -/
namespace Go.Z.Asm
set_option maxRecDepth 8000
set_option linter.unusedVariables false
set_option linter.unusedSimpArgs false
set_option linter.unusedSectionVars false
open Go Go.Z Go.Lib
theorem any_step {α : Type} {s : List α} {k : Nat} {f : α → Bool} (hk : k < s.length) (h : (s.take k).any f = false) : (f s[k] = false → (s.take (k + 1)).any f = false) ∧ (f s[k] = true → s.any f = true) := by
 constructor
 ·intro e
  rw [List.take_add_one, List.getElem?_eq_getElem hk, Option.toList_some, List.any_append, h]; simpa using e
 ·intro e
  rw [List.any_eq_true]
  exact ⟨s[k], List.getElem_mem hk, e⟩
theorem oneR_ref (im : Im) (kr : Nat) (x : Rt) {R : Int} (hR : oneR im kr x = R) {a b : Bool} (ha : x.2.1.all (typedB im.1.length) = a) (hb : x.2.2.1.all (typedB im.1.length) = b) :
  ((!titleP x.1) = true → R = 6) ∧
  ((!titleP x.1) = false → (64 < x.2.1.length ∨ 64 < x.2.2.1.length ∨ 16384 < x.2.2.2.2.1.length ∨ 32768 < x.2.2.2.2.2.length ∨ 32768 < x.2.2.2.1) → R = 3) ∧
  ((!titleP x.1) = false → ¬ (64 < x.2.1.length ∨ 64 < x.2.2.1.length ∨ 16384 < x.2.2.2.2.1.length ∨ 32768 < x.2.2.2.2.2.length ∨ 32768 < x.2.2.2.1) →
   ((!a) = true → R = 10) ∧ ((!b) = true → R = 10) ∧ ((!a) = false → (!b) = false →
    (x.2.2.2.1 < (x.2.1.length : Int) + x.2.2.1.length → R = 9) ∧ (¬ x.2.2.2.1 < (x.2.1.length : Int) + x.2.2.1.length → R = if x.2.2.2.2.1.any outB = true then 14 else codeE im.2 kr x.2.2.2.2.2.length 0 x.2.2.2.2.2))) := by
 subst hR ha hb
 have ht := typed_ref im.1 x.2.1 x.2.2.1
 unfold oneR
 rw [ht]
 refine ⟨fun h => ?_, fun h h2 => ?_, fun h h2 => ⟨fun h3 => ?_, fun h3 => ?_, fun h3 h4 => ⟨fun h5 => ?_, fun h5 => ?_⟩⟩⟩
 ·rw [if_pos (by simpa using h)]
 ·rw [if_neg (by simpa using h), if_pos (by omega)]
 ·rw [if_neg (by simpa using h), if_neg (by omega), if_pos (by simp at h3 ⊢; exact .inl h3)]
 ·rw [if_neg (by simpa using h), if_neg (by omega), if_pos (by simp at h3 ⊢; exact .inr h3)]
 ·rw [if_neg (by simpa using h), if_neg (by omega), if_neg (by simp at h3 h4 ⊢; exact ⟨h3, h4⟩), if_pos h5]
 ·rw [if_neg (by simpa using h), if_neg (by omega), if_neg (by simp at h3 h4 ⊢; exact ⟨h3, h4⟩), if_neg h5]
end Go.Z.Asm
namespace Go.Proofs.YtcnfcoojmbjdlaaGreatDoor
set_option maxRecDepth 8000
set_option linter.unusedVariables false
set_option linter.unusedSimpArgs false
set_option linter.unusedSectionVars false
open Go Go.Z Go.Z.Asm

theorem rroutine_ok {ρ : Nat → Obj → Prop} {ea ra : Option Addr} {ec rc : Nat} {im : Im} (h : ImI ρ ea ra im) (kr : Nat) (hkr : kr < im.2.length) :
  Con Tryz.prog ρ 35 #[.agg #[.slice ea im.1.length ec, .slice ra im.2.length rc], .int .i64 kr] [] (fun v H => v = .int .i64 (oneP im kr) ∧ H = []) := by
 have hrl := h.rl
 have hel := h.el
 obtain ⟨b, off, cs, T, fz, r1, r2, r3⟩ := h.rs (by omega)
 obtain ⟨row, q1, q2, q3⟩ := r3 kr hkr
 have hok := h.ok im.2[kr] (List.getElem_mem hkr)
 rw [oneR_eq im kr hkr]
 generalize im.2[kr] = x0 at q1 hok
 obtain ⟨ia, ic, oa, oc, na, nc, ca, cc, e0, hi, ho, hn, hc⟩ := q1
 subst e0
 have hil := hok.il
 have hol := hok.ol
 have hzl := hok.zl
 have hcl := hok.cl
 obtain ⟨hr1, hr2⟩ := hok.ri
 obtain ⟨bc, oc2, cs2, T2, fz2, hcr⟩ := RSl.row encIns_len hc
 obtain ⟨_, bn, on, cn, Tn, fn, hnr⟩ := id hn
 obtain ⟨R, hR⟩ : ∃ R, oneR im kr x0 = R := ⟨_, rfl⟩
 obtain ⟨yt, hyt⟩ : ∃ b, titleP x0.1 = b := ⟨_, rfl⟩
 obtain ⟨ya, hya⟩ : ∃ b, x0.2.1.all (typedB im.1.length) = b := ⟨_, rfl⟩
 obtain ⟨yb, hyb⟩ : ∃ b, x0.2.2.1.all (typedB im.1.length) = b := ⟨_, rfl⟩
 obtain ⟨o1, o2, o3⟩ := oneR_ref im kr x0 hR hya hyb
 rw [hyt] at o1 o2 o3
 rw [hR]
 have cN : ∀ ρ' : Nat → Obj → Prop, Con Tryz.prog ρ' 64 #[.string (strB x0.1)] [] (fun v H => v = .bool yt ∧ H = []) := fun ρ' => by have := rname_ok (ρ := ρ') x0.1 hok.nl; rw [hyt] at this; exact this
 have cA : ∀ {ρ' : Nat → Obj → Prop}, (∀ b o, ρ b o → ρ' b o) → Con Tryz.prog ρ' 65 #[.slice ea im.1.length ec, .slice ia x0.2.1.length ic] [] (fun v H => v = .bool ya ∧ H = []) := fun hρ => by have := rtyped_ok ea ia ec ic im.1.length hel x0.2.1 (hi.mono hρ) hil; rw [hya] at this; exact this
 have cB : ∀ {ρ' : Nat → Obj → Prop}, (∀ b o, ρ b o → ρ' b o) → Con Tryz.prog ρ' 65 #[.slice ea im.1.length ec, .slice oa x0.2.2.1.length oc] [] (fun v H => v = .bool yb ∧ H = []) := fun hρ => by have := rtyped_ok ea oa ec oc im.1.length hel x0.2.2.1 (ho.mono hρ) hol; rw [hyb] at this; exact this
 refine con_intro Tryz.func35 Tryz.call35 rfl Tryz.ntmps35 rfl (L := [(0, _), (1, _)]) rfl fun w hh => ?_
 refine g_seq <| g_region ?_
 refine g_eff (e_box rfl (by rfl)) rfl (fun _ _ => ?_)
 rintro ⟨b2, rfl, rfl⟩
 refine g_as ?_
 refine g_nil <| g_qt <| g_seq <| g_region ?_
 refine g_fa ?_
 refine g_ld ?_
 refine g_mv ?_
 refine g_pure (p_indexAddr rfl rfl (by omega) (fun _ => r1)) rfl ?_
 refine g_pure (p_loadN (by rfl) rfl (Has.ro r2) (by rw [Int.toNat_natCast]; exact q2)) rfl ?_
 refine g_eff (e_alloc (by rfl)) rfl (fun _ _ => ?_)
 rintro ⟨b5, rfl, rfl⟩
 first | refine g_eff0 (e_storeO rfl rfl (by rfl) (by rfl) (by rfl) (by repeat' (first | exact Take.here | apply Take.there)) (by rfl)) (fun _ _ => ?_) | refine g_eff0 (e_storeN rfl rfl (by rfl) (by rfl) (by rfl) (by repeat' (first | exact Take.here | apply Take.there)) (by simp)) (fun _ _ => ?_)
 rintro rfl
 refine g_nil <| g_qt <| g_seq <| g_seq <| g_region ?_
 refine g_fa ?_
 refine g_ld ?_
 refine g_call (Hin := []) (Hr := ?hr1) (R := ?rr1) rfl rfl rfl ?hin1 ?hc1 ?hk1
 case hin1 => repeat' (first | exact Cover.nil | exact Take.here | apply Cover.cons | apply Take.there)
 case hc1 => intro ρ' hρ hR; exact cN ρ'
 rintro _ _ ⟨rfl, rfl⟩
 refine g_pure (p_not rfl) rfl ?_
 refine g_nil <| g_qt ?_
 refine g_join (fun _ : Unit => [(1, .int .i64 kr), (2, .pointer (some ⟨b2, 0, none⟩)), (5, .pointer (some ⟨b5, 0, none⟩))]) (fun _ => [Blk b2 (.cells [.slice ea im.1.length ec, .slice ra im.2.length rc].toArray 25 (0, 0)), Blk b5 (.cells [.string (strB x0.1), .slice ia x0.2.1.length ic, .slice oa x0.2.2.1.length oc, .int .i64 x0.2.2.2.1, .slice na x0.2.2.2.2.1.length nc, .slice ca x0.2.2.2.2.2.length cc].toArray 45 (0, 0))]) (fun _ => (!yt) = false) ?_ ?_
 ·refine g_ifL rfl (fun h1 => ?_) (fun h1 => ?_)
  ·refine g_seq <| g_region ?_
   refine g_as ?_
   refine g_nil <| g_qt <| g_ret <| g_qn_ret <| g_qt_ret ?_
   exact g_postA (rs := [.tmp 4]) rfl (.tmp rfl .nil) ⟨show Value.int .i64 6 = _ by (rw [o1 (by assumption)]), rfl⟩
  ·refine g_skip <| g_qn ?_
   exact g_joinedA () (by assumption)
 rintro _ n1
 refine g_qt <| g_seq ?_
 refine g_join (fun _ : Unit => [(1, .int .i64 kr), (2, .pointer (some ⟨b2, 0, none⟩)), (5, .pointer (some ⟨b5, 0, none⟩))]) (fun _ => [Blk b2 (.cells [.slice ea im.1.length ec, .slice ra im.2.length rc].toArray 25 (0, 0)), Blk b5 (.cells [.string (strB x0.1), .slice ia x0.2.1.length ic, .slice oa x0.2.2.1.length oc, .int .i64 x0.2.2.2.1, .slice na x0.2.2.2.2.1.length nc, .slice ca x0.2.2.2.2.2.length cc].toArray 45 (0, 0))]) (fun _ => ¬ (64 < x0.2.1.length ∨ 64 < x0.2.2.1.length ∨ 16384 < x0.2.2.2.2.1.length ∨ 32768 < x0.2.2.2.2.2.length ∨ 32768 < x0.2.2.2.1)) ?_ ?_
 ·refine g_seq <| g_region ?_
  refine g_fa ?_
  refine g_ld ?_
  refine g_pure (p_len (by rfl) rfl) rfl ?_
  refine g_pure (p_gtr rfl rfl) rfl ?_
  refine g_mv ?_
  refine g_splitd rfl rfl (fun h1 => ?_) (fun h1 => ?_)
  ·refine g_noA ?_
   refine g_noA ?_
   refine g_noA ?_
   refine g_noA ?_
   first | refine g_pkt ?_ | refine g_pkf ?_
   refine g_mv ?_
   refine g_noA ?_
   refine g_noA ?_
   refine g_noA ?_
   refine g_noA ?_
   first | refine g_pkt ?_ | refine g_pkf ?_
   refine g_mv ?_
   refine g_noA ?_
   refine g_noA ?_
   refine g_noA ?_
   refine g_noA ?_
   first | refine g_pkt ?_ | refine g_pkf ?_
   refine g_mv ?_
   refine g_noA ?_
   refine g_noA ?_
   refine g_noA ?_
   first | refine g_pkt ?_ | refine g_pkf ?_
   refine g_nil <| g_qt ?_
   refine g_ift rfl ?_
   refine g_seq <| g_region ?_
   refine g_as ?_
   refine g_nil <| g_qt <| g_ret <| g_qn_ret <| g_qt_ret ?_
   exact g_postA (rs := [.tmp 4]) rfl (.tmp rfl .nil) ⟨show Value.int .i64 3 = _ by (rw [o2 n1 (by omega)]), rfl⟩
  ·refine g_yesA ?_
   refine g_fa ?_
   refine g_yesA ?_
   refine g_ld ?_
   refine g_yesA ?_
   refine g_pure (p_len (by rfl) rfl) rfl ?_
   refine g_yesA ?_
   refine g_pure (p_gtr rfl rfl) rfl ?_
   first | refine g_pkt ?_ | refine g_pkf ?_
   refine g_mv ?_
   refine g_splitd rfl rfl (fun h6 => ?_) (fun h6 => ?_)
   ·refine g_noA ?_
    refine g_noA ?_
    refine g_noA ?_
    refine g_noA ?_
    first | refine g_pkt ?_ | refine g_pkf ?_
    refine g_mv ?_
    refine g_noA ?_
    refine g_noA ?_
    refine g_noA ?_
    refine g_noA ?_
    first | refine g_pkt ?_ | refine g_pkf ?_
    refine g_mv ?_
    refine g_noA ?_
    refine g_noA ?_
    refine g_noA ?_
    first | refine g_pkt ?_ | refine g_pkf ?_
    refine g_nil <| g_qt ?_
    refine g_ift rfl ?_
    refine g_seq <| g_region ?_
    refine g_as ?_
    refine g_nil <| g_qt <| g_ret <| g_qn_ret <| g_qt_ret ?_
    exact g_postA (rs := [.tmp 4]) rfl (.tmp rfl .nil) ⟨show Value.int .i64 3 = _ by (rw [o2 n1 (by omega)]), rfl⟩
   ·refine g_yesA ?_
    refine g_fa ?_
    refine g_yesA ?_
    refine g_ld ?_
    refine g_yesA ?_
    refine g_pure (p_len (by rfl) rfl) rfl ?_
    refine g_yesA ?_
    refine g_pure (p_gtr rfl rfl) rfl ?_
    first | refine g_pkt ?_ | refine g_pkf ?_
    refine g_mv ?_
    refine g_splitd rfl rfl (fun h10 => ?_) (fun h10 => ?_)
    ·refine g_noA ?_
     refine g_noA ?_
     refine g_noA ?_
     refine g_noA ?_
     first | refine g_pkt ?_ | refine g_pkf ?_
     refine g_mv ?_
     refine g_noA ?_
     refine g_noA ?_
     refine g_noA ?_
     first | refine g_pkt ?_ | refine g_pkf ?_
     refine g_nil <| g_qt ?_
     refine g_ift rfl ?_
     refine g_seq <| g_region ?_
     refine g_as ?_
     refine g_nil <| g_qt <| g_ret <| g_qn_ret <| g_qt_ret ?_
     exact g_postA (rs := [.tmp 4]) rfl (.tmp rfl .nil) ⟨show Value.int .i64 3 = _ by (rw [o2 n1 (by omega)]), rfl⟩
    ·refine g_yesA ?_
     refine g_fa ?_
     refine g_yesA ?_
     refine g_ld ?_
     refine g_yesA ?_
     refine g_pure (p_len (by rfl) rfl) rfl ?_
     refine g_yesA ?_
     refine g_pure (p_gtr rfl rfl) rfl ?_
     first | refine g_pkt ?_ | refine g_pkf ?_
     refine g_mv ?_
     refine g_splitd rfl rfl (fun h13 => ?_) (fun h13 => ?_)
     ·refine g_noA ?_
      refine g_noA ?_
      refine g_noA ?_
      first | refine g_pkt ?_ | refine g_pkf ?_
      refine g_nil <| g_qt ?_
      refine g_ift rfl ?_
      refine g_seq <| g_region ?_
      refine g_as ?_
      refine g_nil <| g_qt <| g_ret <| g_qn_ret <| g_qt_ret ?_
      exact g_postA (rs := [.tmp 4]) rfl (.tmp rfl .nil) ⟨show Value.int .i64 3 = _ by (rw [o2 n1 (by omega)]), rfl⟩
     ·refine g_yesA ?_
      refine g_fa ?_
      refine g_yesA ?_
      refine g_ld ?_
      refine g_yesA ?_
      refine g_pure (p_gtr rfl rfl) rfl ?_
      first | refine g_pkt ?_ | refine g_pkf ?_
      refine g_nil <| g_qt ?_
      refine g_ifdL rfl (fun h15 => ?_) (fun h15 => ?_)
      ·refine g_seq <| g_region ?_
       refine g_as ?_
       refine g_nil <| g_qt <| g_ret <| g_qn_ret <| g_qt_ret ?_
       exact g_postA (rs := [.tmp 4]) rfl (.tmp rfl .nil) ⟨show Value.int .i64 3 = _ by (rw [o2 n1 (by omega)]), rfl⟩
      ·refine g_skip <| g_qn ?_
       exact g_joinedA () (by omega)
 rintro _ n2
 refine g_qt ?_
 obtain ⟨o4, o5, o6⟩ := o3 n1 n2
 refine g_seq ?_
 refine g_join (fun _ : Unit => [(1, .int .i64 kr), (2, .pointer (some ⟨b2, 0, none⟩)), (5, .pointer (some ⟨b5, 0, none⟩))]) (fun _ => [Blk b2 (.cells [.slice ea im.1.length ec, .slice ra im.2.length rc].toArray 25 (0, 0)), Blk b5 (.cells [.string (strB x0.1), .slice ia x0.2.1.length ic, .slice oa x0.2.2.1.length oc, .int .i64 x0.2.2.2.1, .slice na x0.2.2.2.2.1.length nc, .slice ca x0.2.2.2.2.2.length cc].toArray 45 (0, 0))]) (fun _ => (!ya) = false ∧ (!yb) = false) ?_ ?_
 ·refine g_seq <| g_region ?_
  refine g_fa ?_
  refine g_ld ?_
  refine g_fa ?_
  refine g_ld ?_
  refine g_call (Hin := []) (Hr := ?hr2) (R := ?rr2) rfl rfl rfl ?hin2 ?hc2 ?hk2
  case hin2 => repeat' (first | exact Cover.nil | exact Take.here | apply Cover.cons | apply Take.there)
  case hc2 => intro ρ' hρ hR; exact cA hρ
  rintro _ _ ⟨rfl, rfl⟩
  refine g_pure (p_not rfl) rfl ?_
  refine g_mv ?_
  refine g_split rfl rfl (fun h1 => ?_) (fun h1 => ?_)
  ·refine g_noA ?_
   refine g_noA ?_
   refine g_noA ?_
   refine g_noA ?_
   refine g_noA ?_
   refine g_noA ?_
   first | refine g_pkt ?_ | refine g_pkf ?_
   refine g_nil <| g_qt ?_
   refine g_ift rfl ?_
   refine g_seq <| g_region ?_
   refine g_as ?_
   refine g_nil <| g_qt <| g_ret <| g_qn_ret <| g_qt_ret ?_
   first | exact g_postA (rs := [.tmp 4]) rfl (.tmp rfl .nil) ⟨show Value.int .i64 10 = _ by (rw [o4 (by assumption)]), rfl⟩ | exact g_postA (rs := [.tmp 4]) rfl (.tmp rfl .nil) ⟨show Value.int .i64 10 = _ by (rw [o5 (by assumption)]), rfl⟩
  ·refine g_yesA ?_
   refine g_fa ?_
   refine g_yesA ?_
   refine g_ld ?_
   refine g_yesA ?_
   refine g_fa ?_
   refine g_yesA ?_
   refine g_ld ?_
   refine g_yesA ?_
   refine g_call (Hin := []) (Hr := ?hr3) (R := ?rr3) rfl rfl rfl ?hin3 ?hc3 ?hk3
   case hin3 => repeat' (first | exact Cover.nil | exact Take.here | apply Cover.cons | apply Take.there)
   case hc3 => intro ρ' hρ hR; exact cB hρ
   rintro _ _ ⟨rfl, rfl⟩
   refine g_yesA ?_
   refine g_pure (p_not rfl) rfl ?_
   first | refine g_pkt ?_ | refine g_pkf ?_
   refine g_nil <| g_qt ?_
   refine g_ifL rfl (fun h3 => ?_) (fun h3 => ?_)
   ·refine g_seq <| g_region ?_
    refine g_as ?_
    refine g_nil <| g_qt <| g_ret <| g_qn_ret <| g_qt_ret ?_
    first | exact g_postA (rs := [.tmp 4]) rfl (.tmp rfl .nil) ⟨show Value.int .i64 10 = _ by (rw [o4 (by assumption)]), rfl⟩ | exact g_postA (rs := [.tmp 4]) rfl (.tmp rfl .nil) ⟨show Value.int .i64 10 = _ by (rw [o5 (by assumption)]), rfl⟩
   ·refine g_skip <| g_qn ?_
    exact g_joinedA () ⟨by assumption, by assumption⟩
 rintro _ ⟨n3, n4⟩
 refine g_qt ?_
 obtain ⟨o7, o8⟩ := o6 n3 n4
 refine g_seq ?_
 refine g_join (fun _ : Unit => [(1, .int .i64 kr), (2, .pointer (some ⟨b2, 0, none⟩)), (5, .pointer (some ⟨b5, 0, none⟩))]) (fun _ => [Blk b2 (.cells [.slice ea im.1.length ec, .slice ra im.2.length rc].toArray 25 (0, 0)), Blk b5 (.cells [.string (strB x0.1), .slice ia x0.2.1.length ic, .slice oa x0.2.2.1.length oc, .int .i64 x0.2.2.2.1, .slice na x0.2.2.2.2.1.length nc, .slice ca x0.2.2.2.2.2.length cc].toArray 45 (0, 0))]) (fun _ => R = if x0.2.2.2.2.1.any outB = true then 14 else codeE im.2 kr x0.2.2.2.2.2.length 0 x0.2.2.2.2.2) ?_ ?_
 ·refine g_seq <| g_region ?_
  refine g_fa ?_
  refine g_ld ?_
  refine g_fa ?_
  refine g_ld ?_
  refine g_pure (p_len (by rfl) rfl) rfl ?_
  refine g_fa ?_
  refine g_ld ?_
  refine g_pure (p_len (by rfl) rfl) rfl ?_
  first | refine g_pure (p_addi rfl rfl (by omega)) rfl ?_ | refine g_pure (p_add rfl rfl) rfl ?_
  refine g_pure (p_lss rfl rfl) rfl ?_
  refine g_nil <| g_qt ?_
  refine g_ifdL rfl (fun h1 => ?_) (fun h1 => ?_)
  ·refine g_seq <| g_region ?_
   refine g_as ?_
   refine g_nil <| g_qt <| g_ret <| g_qn_ret <| g_qt_ret ?_
   exact g_postA (rs := [.tmp 4]) rfl (.tmp rfl .nil) ⟨show Value.int .i64 9 = _ by (rw [o7 (by omega)]), rfl⟩
  ·refine g_skip <| g_qn ?_
   exact g_joinedA () (o8 (by omega))
 rintro _ hR2
 refine g_qt ?_
 rw [hR2]
 refine g_seq <| g_seq <| g_region ?_
 refine g_as ?_
 refine g_nil <| g_qt <| g_block ?_
 refine g_loop (fun k : Nat => [(1, .int .i64 kr), (2, .pointer (some ⟨b2, 0, none⟩)), (5, .pointer (some ⟨b5, 0, none⟩)), (6, .int .i64 k)])
  (fun _ => [Blk b2 (.cells [.slice ea im.1.length ec, .slice ra im.2.length rc].toArray 25 (0, 0)), Blk b5 (.cells [.string (strB x0.1), .slice ia x0.2.1.length ic, .slice oa x0.2.2.1.length oc, .int .i64 x0.2.2.2.1, .slice na x0.2.2.2.2.1.length nc, .slice ca x0.2.2.2.2.2.length cc].toArray 45 (0, 0))])
  (fun k => k ≤ x0.2.2.2.2.1.length ∧ (x0.2.2.2.2.1.take k).any outB = false) (fun k => x0.2.2.2.2.1.length - k) 0 ⟨Nat.zero_le _, rfl⟩ (by (repeat (first | exact trivial | refine ⟨by rfl, ?_⟩)); done) (by repeat' (first | exact Cover.nil | exact Take.here | apply Cover.cons | apply Take.there)) ?_
 rintro k ⟨hk1, hk2⟩
 refine g_seq <| g_seq <| g_region ?_
 refine g_mv ?_
 refine g_fa ?_
 refine g_ld ?_
 refine g_pure (p_len (by rfl) rfl) rfl ?_
 refine g_pure (p_lss rfl rfl) rfl ?_
 refine g_nil <| g_qt ?_
 refine g_ifd rfl (fun q => ?_) (fun q => ?_)
 ·have hkl : k < x0.2.2.2.2.1.length := by omega
  obtain ⟨t1, t2⟩ := any_step hkl hk2
  have hx : cn[on + (k : Int).toNat * 1]? = some (.int .i64 x0.2.2.2.2.1[k]) := by
   rw [Int.toNat_natCast, Nat.mul_one]
   exact (hnr (by omega)).2.2 k _ (by simp [List.getElem?_eq_getElem hkl]; rfl)
  generalize x0.2.2.2.2.1[k] = z at t1 t2 hx
  have b1 : -32768 ≤ z ∧ z ≤ 32767 → outB z = false := fun h => by unfold outB; rw [decide_eq_false (by omega), decide_eq_false (by omega)]; rfl
  have b2' : ¬ (-32768 ≤ z ∧ z ≤ 32767) → outB z = true := fun h => by
   unfold outB
   by_cases h1 : z < -32768
   ·rw [decide_eq_true h1]; rfl
   ·rw [decide_eq_true (p := 32767 < z) (by omega), Bool.or_true]
  refine g_skip <| g_qt <| g_seq <| g_block <| g_seq <| g_region ?_
  refine g_fa ?_
  refine g_ld ?_
  refine g_mv ?_
  refine g_pure (p_indexAddr rfl rfl (by omega) (fun _ => (hnr (by omega)).1)) rfl ?_
  refine g_pure (p_load (by rfl) rfl (Has.ro (hnr (by omega)).2.1) hx) rfl ?_
  refine g_pure (p_lss rfl rfl) rfl ?_
  refine g_mv ?_
  refine g_splitd rfl rfl (fun h1 => ?_) (fun h1 => ?_)
  ·refine g_noA ?_
   refine g_noA ?_
   refine g_noA ?_
   refine g_noA ?_
   refine g_noA ?_
   refine g_noA ?_
   first | refine g_pkt ?_ | refine g_pkf ?_
   refine g_nil <| g_qt ?_
   refine g_ift rfl ?_
   refine g_seq <| g_region ?_
   refine g_as ?_
   refine g_nil <| g_qt <| g_ret <| g_qb_ret <| g_qt_ret <| g_qn_ret <| g_qb_ret <| g_qt_ret ?_
   exact g_postA (rs := [.tmp 4]) rfl (.tmp rfl .nil) ⟨by rw [if_pos (t2 (b2' (by omega)))]; rfl, rfl⟩
  ·refine g_yesA ?_
   refine g_fa ?_
   refine g_yesA ?_
   refine g_ld ?_
   refine g_yesA ?_
   refine g_mv ?_
   refine g_yesA ?_
   refine g_pure (p_indexAddr rfl rfl (by omega) (fun _ => (hnr (by omega)).1)) rfl ?_
   refine g_yesA ?_
   refine g_pure (p_load (by rfl) rfl (Has.ro (hnr (by omega)).2.1) hx) rfl ?_
   refine g_yesA ?_
   refine g_pure (p_gtr rfl rfl) rfl ?_
   first | refine g_pkt ?_ | refine g_pkf ?_
   refine g_nil <| g_qt ?_
   refine g_ifdL rfl (fun h3 => ?_) (fun h3 => ?_)
   ·refine g_seq <| g_region ?_
    refine g_as ?_
    refine g_nil <| g_qt <| g_ret <| g_qb_ret <| g_qt_ret <| g_qn_ret <| g_qb_ret <| g_qt_ret ?_
    exact g_postA (rs := [.tmp 4]) rfl (.tmp rfl .nil) ⟨by rw [if_pos (t2 (b2' (by omega)))]; rfl, rfl⟩
   ·refine g_skip <| g_qb <| g_qt <| g_region ?_
    refine g_mv ?_
    first | refine g_pure (p_addi rfl rfl (by omega)) rfl ?_ | refine g_pure (p_add rfl rfl) rfl ?_
    refine g_as ?_
    refine g_nil <| g_qn ?_
    exact g_nextA (k + 1) ⟨hkl, t1 (b1 (by omega))⟩ (by omega)
 ·rw [List.take_of_length_le (by omega)] at hk2
  rw [if_neg (by rw [hk2]; decide)]
  refine g_exit <| g_qt_exit <| g_qn_exit <| g_qb_exit <| g_qt <| g_seq <| g_seq <| g_region ?_
  refine g_as ?_
  refine g_nil <| g_qt <| g_block ?_
  refine g_loop (fun k : Nat => [(1, .int .i64 kr), (2, .pointer (some ⟨b2, 0, none⟩)), (5, .pointer (some ⟨b5, 0, none⟩)), (7, .int .i64 k)])
   (fun _ => [Blk b2 (.cells [.slice ea im.1.length ec, .slice ra im.2.length rc].toArray 25 (0, 0)), Blk b5 (.cells [.string (strB x0.1), .slice ia x0.2.1.length ic, .slice oa x0.2.2.1.length oc, .int .i64 x0.2.2.2.1, .slice na x0.2.2.2.2.1.length nc, .slice ca x0.2.2.2.2.2.length cc].toArray 45 (0, 0))])
   (fun k => k ≤ x0.2.2.2.2.2.length ∧ codeE im.2 kr x0.2.2.2.2.2.length 0 x0.2.2.2.2.2 = codeE im.2 kr x0.2.2.2.2.2.length k (x0.2.2.2.2.2.drop k)) (fun k => x0.2.2.2.2.2.length - k) 0 ⟨Nat.zero_le _, rfl⟩ (by (repeat (first | exact trivial | refine ⟨by rfl, ?_⟩)); done) (by repeat' (first | exact Cover.nil | exact Take.here | apply Cover.cons | apply Take.there)) ?_
  rintro k ⟨hk, hk2⟩
  rw [hk2]
  refine g_seq <| g_seq <| g_region ?_
  refine g_mv ?_
  refine g_fa ?_
  refine g_ld ?_
  refine g_pure (p_len (by rfl) rfl) rfl ?_
  refine g_pure (p_lss rfl rfl) rfl ?_
  refine g_nil <| g_qt ?_
  refine g_ifd rfl (fun q => ?_) (fun q => ?_)
  ·have hkl : k < x0.2.2.2.2.2.length := by omega
   obtain ⟨c1, c2, c3⟩ := hcr (by omega)
   have c4 := (c3 k hkl).1 (by decide)
   rw [codeE_step im.2 kr x0.2.2.2.2.2.length x0.2.2.2.2.2 hkl] at hk2 ⊢
   generalize x0.2.2.2.2.2[k] = ii at c4 hk2
   refine g_skip <| g_qt <| g_seq <| g_block <| g_seq <| g_seq ?_
   refine m_begin0 (.fl 0 0 (.fl 1 1 (.fl 2 0 (.fl 3 0 (.fl 4 1 (.fl 5 0 (.fl 6 0 (.fl 7 1 (.fl 8 0 (.ef 9 (.fl 10 0 .done))))))))))) (by kernel_rfl) (by kernel_rfl) ?_
   refine m_float0 rfl (fun _ _ => p_fieldAddr rfl) rfl ?_
   refine m_float rfl (p_loadA) rfl ?_
   refine m_float0 rfl (fun _ _ => p_move rfl) rfl ?_
   refine m_float0 rfl (fun _ _ => p_indexAddr rfl rfl (by omega) (fun _ => c1)) rfl ?_
   refine m_float rfl (p_loadN (by rfl) rfl (Has.ro c2) (by rw [Int.toNat_natCast]; exact c4)) rfl ?_
   refine m_float0 rfl (fun _ _ => p_move rfl) rfl ?_
   refine m_float0 rfl (fun _ _ => p_fieldAddr rfl) rfl ?_
   refine m_float rfl (p_loadA) rfl ?_
   refine m_float0 rfl (fun _ _ => p_len (by rfl) rfl) rfl ?_
   refine m_call (Hin := []) (Hr := ?hr4) (R := ?rr4) rfl wantedN rfl rfl rfl ?hin4 ?hc4 ?hk4
   case hin4 => repeat' (first | exact Cover.nil | exact Take.here | apply Cover.cons | apply Take.there)
   case hc4 => intro ρ' hρ hR; exact rform_ok ii k x0.2.2.2.2.2.length
   rintro _ _ ⟨rfl, rfl⟩
   refine ⟨.none (by kernel_rfl), ?_⟩
   refine m_float0 rfl (fun _ _ => p_not rfl) rfl ?_
   refine m_nil ?_
   refine g_qt ?_
   refine g_if rfl (fun h8 => ?_) (fun h8 => ?_)
   ·have h8' : formP x0.2.2.2.2.2.length k ii = false := by simpa using h8
    refine g_seq <| g_region ?_
    refine g_as ?_
    refine g_nil <| g_qt <| g_ret <| g_qt_ret <| g_qb_ret <| g_qt_ret <| g_qn_ret <| g_qb_ret ?_
    refine g_qt_ret ?_
    exact g_postA (rs := [.tmp 4]) rfl (.tmp rfl .nil) ⟨by rw [h8']; rfl, rfl⟩
   ·have h8' : formP x0.2.2.2.2.2.length k ii = true := by simpa using h8
    rw [h8', if_pos rfl] at hk2 ⊢
    refine g_skip <| g_qt <| g_seq ?_
    refine m_begin0 (.fl 0 1 (.fl 1 0 (.fl 2 0 (.fl 3 1 (.fl 4 0 (.fl 5 0 (.fl 6 1 (.ef 7 (.fl 8 0 .done))))))))) (by kernel_rfl) (by kernel_rfl) ?_
    first | refine m_float rfl (p_loadO (by rfl) rfl (by first | (apply Has.own; (repeat' (first | exact Take.here | apply Take.there)); done) | exact Has.ro (by assumption)) (by rfl)) rfl ?_ | refine m_float rfl (p_loadN (by rfl) rfl (by first | (apply Has.own; (repeat' (first | exact Take.here | apply Take.there)); done) | exact Has.ro (by assumption)) (by first | rfl | assumption)) rfl ?_
    refine m_float0 rfl (fun _ _ => p_move rfl) rfl ?_
    refine m_float0 rfl (fun _ _ => p_fieldAddr rfl) rfl ?_
    refine m_float rfl (p_loadA) rfl ?_
    refine m_float0 rfl (fun _ _ => p_move rfl) rfl ?_
    refine m_float0 rfl (fun _ _ => p_indexAddr rfl rfl (by omega) (fun _ => c1)) rfl ?_
    refine m_float rfl (p_loadN (by rfl) rfl (Has.ro c2) (by rw [Int.toNat_natCast]; exact c4)) rfl ?_
    refine m_call (Hin := []) (Hr := ?hr5) (R := ?rr5) rfl wantedN rfl rfl rfl ?hin5 ?hc5 ?hk5
    case hin5 => repeat' (first | exact Cover.nil | exact Take.here | apply Cover.cons | apply Take.there)
    case hc5 => intro ρ' hρ hR; exact rranges_ok (ec := ec) (rc := rc) (h.mono hρ) kr hkr ii
    rintro _ _ ⟨rfl, rfl⟩
    refine ⟨.none (by kernel_rfl), ?_⟩
    refine m_float0 rfl (fun _ _ => p_not rfl) rfl ?_
    refine m_nil ?_
    refine g_qt ?_
    refine g_if rfl (fun h9 => ?_) (fun h9 => ?_)
    ·have h9' : rangesP im.2 kr ii = false := by simpa using h9
     refine g_seq <| g_region ?_
     refine g_as ?_
     refine g_nil <| g_qt <| g_ret <| g_qb_ret <| g_qt_ret <| g_qn_ret <| g_qb_ret <| g_qt_ret ?_
     exact g_postA (rs := [.tmp 4]) rfl (.tmp rfl .nil) ⟨by rw [h9']; rfl, rfl⟩
    ·have h9' : rangesP im.2 kr ii = true := by simpa using h9
     rw [h9', if_pos rfl] at hk2 ⊢
     refine g_skip <| g_qb <| g_qt <| g_region ?_
     refine g_mv ?_
     first | refine g_pure (p_addi rfl rfl (by omega)) rfl ?_ | refine g_pure (p_add rfl rfl) rfl ?_
     refine g_as ?_
     refine g_nil <| g_qn ?_
     rw [← hk2]
     exact g_nextA (k + 1) ⟨hkl, hk2⟩ (by omega)
  ·have hke : k = x0.2.2.2.2.2.length := by omega
   subst hke
   refine g_exit <| g_qt_exit <| g_qn_exit <| g_qb_exit <| g_qt <| g_seq <| g_region ?_
   refine g_as ?_
   refine g_nil <| g_qt <| g_ret ?_
   exact g_postA (rs := [.tmp 4]) rfl (.tmp rfl .nil) ⟨by rw [List.drop_eq_nil_of_le (Nat.le_refl _)]; rfl, rfl⟩

theorem rcheck_ok {ρ : Nat → Obj → Prop} {ea ra : Option Addr} {ec rc : Nat} {im : Im} (h : ImI ρ ea ra im) :
  Con Tryz.prog ρ 15 #[.agg #[.slice ea im.1.length ec, .slice ra im.2.length rc]] [] (fun v H => v = .int .i64 (checkP im) ∧ H = []) := by
 have hrl := h.rl
 have hel := h.el
 obtain ⟨_, be, oe, ce, Te, fe, her⟩ := h.es
 obtain ⟨R, hR⟩ : ∃ R, checkP im = R := ⟨_, rfl⟩
 have c1 : (24 < im.1.length ∨ 96 < im.2.length) → R = 3 := fun h => by rw [← hR]; unfold checkP; rw [if_pos h]
 have c2 : ¬ (24 < im.1.length ∨ 96 < im.2.length) → im.1.any (fun n => decide (n < 1) || decide (16 < n)) = true → R = 14 := fun h h2 => by rw [← hR]; unfold checkP; rw [if_neg h, if_pos h2]
 have c3 : ¬ (24 < im.1.length ∨ 96 < im.2.length) → im.1.any (fun n => decide (n < 1) || decide (16 < n)) = false → im.2.length = 0 → R = 5 := fun h h2 h3 => by rw [← hR]; unfold checkP; rw [if_neg h, h2, if_neg (by decide), if_pos h3]
 have c4 : ¬ (24 < im.1.length ∨ 96 < im.2.length) → im.1.any (fun n => decide (n < 1) || decide (16 < n)) = false → ¬ im.2.length = 0 → R = rtsE im 0 (im.2.length - 0) := fun h h2 h3 => by rw [← hR]; unfold checkP; rw [if_neg h, h2, if_neg (by decide), if_neg h3]; rfl
 rw [hR]
 refine con_intro Tryz.func15 Tryz.call15 rfl Tryz.ntmps15 rfl (L := [(0, _)]) rfl fun w hh => ?_
 refine g_seq <| g_region ?_
 refine g_eff (e_box rfl (by rfl)) rfl (fun _ _ => ?_)
 rintro ⟨b1, rfl, rfl⟩
 refine g_as ?_
 refine g_nil <| g_qt <| g_seq ?_
 refine g_join (fun _ : Unit => [(1, .pointer (some ⟨b1, 0, none⟩))]) (fun _ => [Blk b1 (.cells [.slice ea im.1.length ec, .slice ra im.2.length rc].toArray 25 (0, 0))]) (fun _ => ¬ (24 < im.1.length ∨ 96 < im.2.length)) ?_ ?_
 ·refine g_seq <| g_region ?_
  refine g_fa ?_
  refine g_ld ?_
  refine g_pure (p_len (by rfl) rfl) rfl ?_
  refine g_pure (p_gtr rfl rfl) rfl ?_
  refine g_mv ?_
  refine g_splitd rfl rfl (fun h1 => ?_) (fun h1 => ?_)
  ·refine g_noA ?_
   refine g_noA ?_
   refine g_noA ?_
   refine g_noA ?_
   first | refine g_pkt ?_ | refine g_pkf ?_
   refine g_nil <| g_qt ?_
   refine g_ift rfl ?_
   refine g_seq <| g_region ?_
   refine g_as ?_
   refine g_nil <| g_qt <| g_ret <| g_qn_ret <| g_qt_ret ?_
   exact g_postA (rs := [.tmp 2]) rfl (.tmp rfl .nil) ⟨by rw [c1 (by omega)]; rfl, rfl⟩
  ·refine g_yesA ?_
   refine g_fa ?_
   refine g_yesA ?_
   refine g_ld ?_
   refine g_yesA ?_
   refine g_pure (p_len (by rfl) rfl) rfl ?_
   refine g_yesA ?_
   refine g_pure (p_gtr rfl rfl) rfl ?_
   first | refine g_pkt ?_ | refine g_pkf ?_
   refine g_nil <| g_qt ?_
   refine g_ifdL rfl (fun h3 => ?_) (fun h3 => ?_)
   ·refine g_seq <| g_region ?_
    refine g_as ?_
    refine g_nil <| g_qt <| g_ret <| g_qn_ret <| g_qt_ret ?_
    exact g_postA (rs := [.tmp 2]) rfl (.tmp rfl .nil) ⟨by rw [c1 (by omega)]; rfl, rfl⟩
   ·refine g_skip <| g_qn ?_
    exact g_joinedA () (by omega)
 rintro _ hn
 refine g_qt <| g_seq <| g_seq <| g_region ?_
 refine g_as ?_
 refine g_nil <| g_qt <| g_block ?_
 refine g_loop (fun k : Nat => [(1, .pointer (some ⟨b1, 0, none⟩)), (3, .int .i64 k)]) (fun _ => [Blk b1 (.cells [.slice ea im.1.length ec, .slice ra im.2.length rc].toArray 25 (0, 0))]) (fun k => k ≤ im.1.length ∧ (im.1.take k).any (fun n => decide (n < 1) || decide (16 < n)) = false) (fun k => im.1.length - k) 0 ⟨Nat.zero_le _, rfl⟩ (by (repeat (first | exact trivial | refine ⟨by rfl, ?_⟩)); done) (by repeat' (first | exact Cover.nil | exact Take.here | apply Cover.cons | apply Take.there)) ?_
 rintro k ⟨hk1, hk2⟩
 refine g_seq <| g_seq <| g_region ?_
 refine g_mv ?_
 refine g_fa ?_
 refine g_ld ?_
 refine g_pure (p_len (by rfl) rfl) rfl ?_
 refine g_pure (p_lss rfl rfl) rfl ?_
 refine g_nil <| g_qt ?_
 refine g_ifd rfl (fun q => ?_) (fun q => ?_)
 ·have hkl : k < im.1.length := by omega
  obtain ⟨t1, t2⟩ := any_step hkl hk2
  have hx : ce[oe + (k : Int).toNat * 1]? = some (.int .i64 im.1[k]) := by
   rw [Int.toNat_natCast, Nat.mul_one]
   exact (her (by omega)).2.2 k _ (by simp [List.getElem?_eq_getElem hkl]; rfl)
  generalize im.1[k] = z at t1 t2 hx
  have d1 : 1 ≤ z ∧ z ≤ 16 → (decide (z < 1) || decide (16 < z)) = false := fun h => by rw [decide_eq_false (by omega), decide_eq_false (by omega)]; rfl
  have d2 : ¬ (1 ≤ z ∧ z ≤ 16) → (decide (z < 1) || decide (16 < z)) = true := fun h => by
   by_cases h1 : z < 1
   ·rw [decide_eq_true h1]; rfl
   ·rw [decide_eq_true (p := 16 < z) (by omega), Bool.or_true]
  refine g_skip <| g_qt <| g_seq <| g_block <| g_seq <| g_region ?_
  refine g_fa ?_
  refine g_ld ?_
  refine g_mv ?_
  refine g_pure (p_indexAddr rfl rfl (by omega) (fun _ => (her (by omega)).1)) rfl ?_
  refine g_pure (p_load (by rfl) rfl (Has.ro (her (by omega)).2.1) hx) rfl ?_
  refine g_pure (p_lss rfl rfl) rfl ?_
  refine g_mv ?_
  refine g_splitd rfl rfl (fun h1 => ?_) (fun h1 => ?_)
  ·refine g_noA ?_
   refine g_noA ?_
   refine g_noA ?_
   refine g_noA ?_
   refine g_noA ?_
   refine g_noA ?_
   first | refine g_pkt ?_ | refine g_pkf ?_
   refine g_nil <| g_qt ?_
   refine g_ift rfl ?_
   refine g_seq <| g_region ?_
   refine g_as ?_
   refine g_nil <| g_qt <| g_ret <| g_qb_ret <| g_qt_ret <| g_qn_ret <| g_qb_ret <| g_qt_ret ?_
   exact g_postA (rs := [.tmp 2]) rfl (.tmp rfl .nil) ⟨by rw [c2 hn (t2 (d2 (by omega)))]; rfl, rfl⟩
  ·refine g_yesA ?_
   refine g_fa ?_
   refine g_yesA ?_
   refine g_ld ?_
   refine g_yesA ?_
   refine g_mv ?_
   refine g_yesA ?_
   refine g_pure (p_indexAddr rfl rfl (by omega) (fun _ => (her (by omega)).1)) rfl ?_
   refine g_yesA ?_
   refine g_pure (p_load (by rfl) rfl (Has.ro (her (by omega)).2.1) hx) rfl ?_
   refine g_yesA ?_
   refine g_pure (p_gtr rfl rfl) rfl ?_
   first | refine g_pkt ?_ | refine g_pkf ?_
   refine g_nil <| g_qt ?_
   refine g_ifdL rfl (fun h3 => ?_) (fun h3 => ?_)
   ·refine g_seq <| g_region ?_
    refine g_as ?_
    refine g_nil <| g_qt <| g_ret <| g_qb_ret <| g_qt_ret <| g_qn_ret <| g_qb_ret <| g_qt_ret ?_
    exact g_postA (rs := [.tmp 2]) rfl (.tmp rfl .nil) ⟨by rw [c2 hn (t2 (d2 (by omega)))]; rfl, rfl⟩
   ·refine g_skip <| g_qb <| g_qt <| g_region ?_
    refine g_mv ?_
    first | refine g_pure (p_addi rfl rfl (by omega)) rfl ?_ | refine g_pure (p_add rfl rfl) rfl ?_
    refine g_as ?_
    refine g_nil <| g_qn ?_
    exact g_nextA (k + 1) ⟨hkl, t1 (d1 (by omega))⟩ (by omega)
 ·rw [List.take_of_length_le (by omega)] at hk2
  refine g_exit <| g_qt_exit <| g_qn_exit <| g_qb_exit <| g_qt <| g_seq <| g_seq <| g_region ?_
  refine g_fa ?_
  refine g_ld ?_
  refine g_pure (p_len (by rfl) rfl) rfl ?_
  refine g_pure (p_eql rfl rfl) rfl ?_
  refine g_nil <| g_qt ?_
  refine g_ifd rfl (fun q2 => ?_) (fun q2 => ?_)
  ·refine g_seq <| g_region ?_
   refine g_as ?_
   refine g_nil <| g_qt <| g_ret <| g_qt_ret ?_
   exact g_postA (rs := [.tmp 2]) rfl (.tmp rfl .nil) ⟨by rw [c3 hn hk2 (by omega)]; rfl, rfl⟩
  ·rw [c4 hn hk2 (by omega)]
   refine g_skip <| g_qt <| g_seq <| g_seq <| g_region ?_
   refine g_as ?_
   refine g_nil <| g_qt <| g_block ?_
   refine g_loop (fun k : Nat => [(1, .pointer (some ⟨b1, 0, none⟩)), (4, .int .i64 k)])
    (fun _ => [Blk b1 (.cells [.slice ea im.1.length ec, .slice ra im.2.length rc].toArray 25 (0, 0))])
    (fun k => k ≤ im.2.length ∧ rtsE im 0 (im.2.length - 0) = rtsE im k (im.2.length - k)) (fun k => im.2.length - k) 0 ⟨Nat.zero_le _, rfl⟩ (by (repeat (first | exact trivial | refine ⟨by rfl, ?_⟩)); done) (by repeat' (first | exact Cover.nil | exact Take.here | apply Cover.cons | apply Take.there)) ?_
   rintro k ⟨hk, hk2⟩
   rw [hk2]
   refine g_seq <| g_seq <| g_region ?_
   refine g_mv ?_
   refine g_fa ?_
   refine g_ld ?_
   refine g_pure (p_len (by rfl) rfl) rfl ?_
   refine g_pure (p_lss rfl rfl) rfl ?_
   refine g_nil <| g_qt ?_
   refine g_ifd rfl (fun q => ?_) (fun q => ?_)
   ·have hkl : k < im.2.length := by omega
    rw [rtsE_step im hkl] at hk2 ⊢
    refine g_skip <| g_qt <| g_seq <| g_block <| g_seq <| g_region ?_
    first | refine g_pure (p_loadO (by rfl) rfl (by first | (apply Has.own; (repeat' (first | exact Take.here | apply Take.there)); done) | exact Has.ro (by assumption)) (by rfl)) rfl ?_ | refine g_pure (p_loadN (by rfl) rfl (by first | (apply Has.own; (repeat' (first | exact Take.here | apply Take.there)); done) | exact Has.ro (by assumption)) (by first | rfl | assumption)) rfl ?_
    refine g_mv ?_
    refine g_call (Hin := []) (Hr := ?hr6) (R := ?rr6) rfl rfl rfl ?hin6 ?hc6 ?hk6
    case hin6 => repeat' (first | exact Cover.nil | exact Take.here | apply Cover.cons | apply Take.there)
    case hc6 => intro ρ' hρ hR; exact rroutine_ok (ec := ec) (rc := rc) (h.mono hρ) k hkl
    rintro _ _ ⟨rfl, rfl⟩
    refine g_as ?_
    refine g_nil <| g_qt <| g_seq <| g_region ?_
    refine g_mv ?_
    refine g_pure (p_neq rfl rfl) rfl ?_
    refine g_nil <| g_qt ?_
    generalize oneP im k = E0 at hk2 ⊢
    refine g_ifnd rfl (fun h5 => ?_) (fun h5 => ?_)
    ·refine g_seq <| g_region ?_
     refine g_mv ?_
     refine g_as ?_
     refine g_nil <| g_qt <| g_ret <| g_qb_ret <| g_qt_ret <| g_qn_ret <| g_qb_ret <| g_qt_ret ?_
     exact g_postA (rs := [.tmp 2]) rfl (.tmp rfl .nil) ⟨by rw [if_neg h5]; rfl, rfl⟩
    ·rw [if_pos (by omega)] at hk2 ⊢
     refine g_skip <| g_qb <| g_qt <| g_region ?_
     refine g_mv ?_
     first | refine g_pure (p_addi rfl rfl (by omega)) rfl ?_ | refine g_pure (p_add rfl rfl) rfl ?_
     refine g_as ?_
     refine g_nil <| g_qn ?_
     rw [← hk2]
     exact g_nextA (k + 1) ⟨hkl, hk2⟩ (by omega)
   ·rw [show im.2.length - k = 0 by omega]
    refine g_exit <| g_qt_exit <| g_qn_exit <| g_qb_exit <| g_qt <| g_seq <| g_region ?_
    refine g_as ?_
    refine g_nil <| g_qt <| g_ret ?_
    exact g_postA (rs := [.tmp 2]) rfl (.tmp rfl .nil) ⟨rfl, rfl⟩
end Go.Proofs.YtcnfcoojmbjdlaaGreatDoor
