/- Own texts, put together: Qh Qi Qj Qk Ql Qm Qn Qo Qp Qq Qr. Conditions: as told at each. -/
import Derived.Test.YtcnfcoojmbjdlaaGreatDoorMAsQ0
import Derived.Lib.AppendIntMem
import Derived.Test.YtcnfcoojmbjdlaaGreatDoorZl
import Derived.Test.YtcnfcoojmbjdlaaGreatDoorYm
import Derived.Lib.ItoaLen
import Derived.Test.YtcnfcoojmbjdlaaGreatDoorHq
import Derived.Lib.RowBridge
/- Chapter 26: a routine's check, an image's check. Conditions: what the table of operations holds (OpsK). -/
namespace Go.Z.Asm
set_option maxRecDepth 8000
set_option linter.unusedVariables false
set_option linter.unusedSimpArgs false
set_option linter.unusedSectionVars false
open Go Go.Z Go.Lib
def oneR (im : Im) (k : Nat) (r : Rt) : Int :=
  if ¬ titleP r.1 = true then 6
  else if (64 < max r.2.1.length r.2.2.1.length ∨ 16384 < r.2.2.2.2.1.length) ∨ 32768 < max (r.2.2.2.2.2.length : Int) r.2.2.2.1 then 3
  else if (r.2.1 ++ r.2.2.1).any (fun t => !decide (validP im.1 t)) = true then 10
  else if r.2.2.2.1 < (r.2.1.length : Int) + r.2.2.1.length then 9
  else if r.2.2.2.2.1.any outB = true then 14
  else codeE im.2 k r.2.2.2.2.2.length 0 r.2.2.2.2.2
theorem oneR_eq (im : Im) (k : Nat) (hk : k < im.2.length) : oneP im k = oneR im k im.2[k] := by
  have hget : im.2.getD k emptyRt = im.2[k] := by rw [List.getD_eq_getElem?_getD, List.getElem?_eq_getElem hk]; rfl
  unfold oneP
  rw [hget]; rfl
theorem codeE_step (rts : List Rt) (k : Nat) (len : Int) (l : List Ins) {j : Nat} (hj : j < l.length) : codeE rts k len j (l.drop j) = if formP len j l[j] then if rangesP rts k l[j] then codeE rts k len (j + 1) (l.drop (j + 1)) else 14 else 5 := by
  rw [List.drop_eq_getElem_cons hj]; rfl
theorem two_rows {ρ : Nat → Obj → Prop} {ia oa : Option Addr} {ic oc b0 : Nat} {a b : List Int} {T : TypeId} {fz : Nat × Nat} (hi : RSl ρ 1 ia a.length (a.map encI)) (ho : RSl ρ 1 oa b.length (b.map encI)) (h : ρ b0 (.cells [.slice ia a.length ic, .slice oa b.length oc].toArray T fz)) : RSl2 ρ (some ⟨b0, 0, none⟩) ([a, b].map (·.map encI)) := by
  refine ⟨[.slice ia a.length ic, .slice oa b.length oc], ⟨rfl, fun j hj => ?_⟩, RSl.of_blk (k := 2) (size := 1) h (Nat.le_refl 2)⟩
  match j, hj with
  | 0, _ => exact ⟨ia, ic, by show some (Value.slice ia a.length ic) = some (Value.slice ia (a.map encI).length ic); rw [List.length_map], by show RSl ρ 1 ia (a.map encI).length (a.map encI); rw [List.length_map]; exact hi⟩
  | 1, _ => exact ⟨oa, oc, by show some (Value.slice oa b.length oc) = some (Value.slice oa (b.map encI).length oc); rw [List.length_map], by show RSl ρ 1 oa (b.map encI).length (b.map encI); rw [List.length_map]; exact ho⟩
end Go.Z.Asm
namespace Go.Proofs.YtcnfcoojmbjdlaaGreatDoor
set_option maxRecDepth 8000
set_option linter.unusedVariables false
set_option linter.unusedSimpArgs false
set_option linter.unusedSectionVars false
open Go Go.Z Go.Z.Asm

theorem one_ok {ρ : Nat → Obj → Prop} (hO : OpsK ρ) {ea ra : Option Addr} {ec rc : Nat} {im : Im} (h : ImI ρ ea ra im) (kr : Nat) (hkr : kr < im.2.length) :
    Con Tryz.prog ρ 34 #[.agg #[.slice ea im.1.length ec, .slice ra im.2.length rc], .int .i64 kr] [] (fun v H => v = .int .i64 (oneP im kr) ∧ H = []) := by
  have hrl := h.rl
  obtain ⟨b, off, cs, T, fz, r1, r2, r3⟩ := h.rs (by omega)
  obtain ⟨row, q1, q2, q3⟩ := r3 kr hkr
  have hok := h.ok im.2[kr] (List.getElem_mem hkr)
  rw [oneR_eq im kr hkr]
  generalize im.2[kr] = x0 at q1 hok
  obtain ⟨ia, ic, oa, oc, na, nc, ca, cc, e0, hi, ho, hn, hc⟩ := q1
  subst e0
  have hil := hok.il
  have hol := hok.ol
  have hzl := hok.zl
  have hcl := hok.cl
  obtain ⟨hr1, hr2⟩ := hok.ri
  have hel := h.el
  obtain ⟨bc, oc2, cs2, T2, fz2, hcr⟩ := RSl.row encIns_len hc
  refine con_intro Tryz.func34 Tryz.call34 rfl Tryz.ntmps34 rfl (L := [(0, _), (1, _)]) rfl fun w hh => ?_
  refine g_seq ?_
  refine g_region ?_
  refine g_eff (e_box rfl (by rfl)) rfl (fun _ _ => ?_)
  rintro ⟨b2, rfl, rfl⟩
  refine g_pure (p_assign rfl) rfl ?_
  refine g_nil ?_
  refine g_qt ?_
  refine g_seq ?_
  refine g_region ?_
  refine g_pure (p_fieldAddr rfl) rfl ?_
  refine g_pure (p_load (by rfl) rfl (by first | (apply Has.own; (repeat' (first | exact Take.here | apply Take.there)); done) | exact Has.ro (by assumption)) (by first | rfl | assumption)) rfl ?_
  refine g_pure (p_move rfl) rfl ?_
  refine g_pure (p_indexAddr rfl rfl (by omega) (fun _ => r1)) rfl ?_
  refine g_pure (p_loadN (by rfl) rfl (Has.ro r2) (by rw [Int.toNat_natCast]; exact q2)) rfl ?_
  refine g_eff (e_alloc (by rfl)) rfl (fun _ _ => ?_)
  rintro ⟨b5, rfl, rfl⟩
  first | refine g_eff0 (e_storeO rfl rfl (by rfl) (by rfl) (by rfl) (by repeat' (first | exact Take.here | apply Take.there)) (by rfl)) (fun _ _ => ?_) | refine g_eff0 (e_storeN rfl rfl (by rfl) (by rfl) (by rfl) (by repeat' (first | exact Take.here | apply Take.there)) (by simp)) (fun _ _ => ?_)
  rintro rfl
  refine g_nil ?_
  refine g_qt ?_
  refine g_seq ?_
  refine g_block ?_
  refine g_seq ?_
  refine g_region ?_
  refine g_pure (p_fieldAddr rfl) rfl ?_
  refine g_pure (p_load (by rfl) rfl (by first | (apply Has.own; (repeat' (first | exact Take.here | apply Take.there)); done) | exact Has.ro (by assumption)) (by first | rfl | assumption)) rfl ?_
  refine g_call (Hin := []) (Hr := ?hr1) (R := ?rr1) rfl rfl rfl ?hin1 ?hc1 ?hk1
  case hin1 => repeat' (first | exact Cover.nil | exact Take.here | apply Cover.cons | apply Take.there)
  case hc1 => intro ρ' hρ hR; exact title_ok x0.1 hok.nl
  rintro _ _ ⟨rfl, rfl⟩
  refine g_pure (p_not rfl) rfl ?_
  refine g_pure (p_assign rfl) rfl ?_
  refine g_nil ?_
  refine g_qt ?_
  refine g_if rfl (fun h1 => ?_) (fun h1 => ?_)
  · refine g_seq ?_
    refine g_region ?_
    refine g_pure (p_assign rfl) rfl ?_
    refine g_nil ?_
    refine g_qt ?_
    refine g_ret ?_
    refine g_qb_ret ?_
    refine g_qt_ret ?_
    exact g_post (rs := [.tmp 4]) rfl (.tmp rfl .nil) ⟨by unfold oneR; rw [if_pos (by simpa using h1)]; rfl, rfl⟩ (by repeat' (first | exact Cover.nil | exact Take.here | apply Cover.cons | apply Take.there))
  · have p1 : titleP x0.1 = true := by simpa using h1
    refine g_seq ?_
    refine g_region ?_
    refine g_pure (p_fieldAddr rfl) rfl ?_
    refine g_pure (p_load (by rfl) rfl (by first | (apply Has.own; (repeat' (first | exact Take.here | apply Take.there)); done) | exact Has.ro (by assumption)) (by first | rfl | assumption)) rfl ?_
    refine g_pure (p_len (by rfl) rfl) rfl ?_
    refine g_pure (p_fieldAddr rfl) rfl ?_
    refine g_pure (p_load (by rfl) rfl (by first | (apply Has.own; (repeat' (first | exact Take.here | apply Take.there)); done) | exact Has.ro (by assumption)) (by first | rfl | assumption)) rfl ?_
    refine g_pure (p_len (by rfl) rfl) rfl ?_
    refine g_pure (p_max rfl rfl) rfl ?_
    refine g_pure (p_gtr rfl rfl) rfl ?_
    refine g_pure (p_move rfl) rfl ?_
    refine g_splitd rfl rfl (fun h2 => ?_) (fun h2 => ?_)
    · refine g_no rfl rfl rfl rfl ?_
      refine g_no rfl rfl rfl rfl ?_
      refine g_no rfl rfl rfl rfl ?_
      refine g_no rfl rfl rfl rfl ?_
      first | refine g_pure (p_pickt rfl rfl) rfl ?_ | refine g_pure (p_pickf rfl rfl) rfl ?_
      refine g_pure (p_move rfl) rfl ?_
      refine g_no rfl rfl rfl rfl ?_
      refine g_no rfl rfl rfl rfl ?_
      refine g_no rfl rfl rfl rfl ?_
      refine g_no rfl rfl rfl rfl ?_
      refine g_no rfl rfl rfl rfl ?_
      refine g_no rfl rfl rfl rfl ?_
      refine g_no rfl rfl rfl rfl ?_
      first | refine g_pure (p_pickt rfl rfl) rfl ?_ | refine g_pure (p_pickf rfl rfl) rfl ?_
      refine g_pure (p_assign rfl) rfl ?_
      refine g_nil ?_
      refine g_qt ?_
      refine g_ift rfl ?_
      refine g_seq ?_
      refine g_region ?_
      refine g_pure (p_assign rfl) rfl ?_
      refine g_nil ?_
      refine g_qt ?_
      refine g_ret ?_
      refine g_qb_ret ?_
      refine g_qt_ret ?_
      exact g_post (rs := [.tmp 4]) rfl (.tmp rfl .nil) ⟨by unfold oneR; rw [if_neg (fun h => h p1), if_pos (.inl (.inl (by omega)))]; rfl, rfl⟩ (by repeat' (first | exact Cover.nil | exact Take.here | apply Cover.cons | apply Take.there))
    · refine g_yes rfl rfl ?_
      refine g_pure (p_fieldAddr rfl) rfl ?_
      refine g_yes rfl rfl ?_
      refine g_pure (p_load (by rfl) rfl (by first | (apply Has.own; (repeat' (first | exact Take.here | apply Take.there)); done) | exact Has.ro (by assumption)) (by first | rfl | assumption)) rfl ?_
      refine g_yes rfl rfl ?_
      refine g_pure (p_len (by rfl) rfl) rfl ?_
      refine g_yes rfl rfl ?_
      refine g_pure (p_gtr rfl rfl) rfl ?_
      first | refine g_pure (p_pickt rfl rfl) rfl ?_ | refine g_pure (p_pickf rfl rfl) rfl ?_
      refine g_pure (p_move rfl) rfl ?_
      refine g_splitd rfl rfl (fun h3 => ?_) (fun h3 => ?_)
      · refine g_no rfl rfl rfl rfl ?_
        refine g_no rfl rfl rfl rfl ?_
        refine g_no rfl rfl rfl rfl ?_
        refine g_no rfl rfl rfl rfl ?_
        refine g_no rfl rfl rfl rfl ?_
        refine g_no rfl rfl rfl rfl ?_
        refine g_no rfl rfl rfl rfl ?_
        first | refine g_pure (p_pickt rfl rfl) rfl ?_ | refine g_pure (p_pickf rfl rfl) rfl ?_
        refine g_pure (p_assign rfl) rfl ?_
        refine g_nil ?_
        refine g_qt ?_
        refine g_ift rfl ?_
        refine g_seq ?_
        refine g_region ?_
        refine g_pure (p_assign rfl) rfl ?_
        refine g_nil ?_
        refine g_qt ?_
        refine g_ret ?_
        refine g_qb_ret ?_
        refine g_qt_ret ?_
        exact g_post (rs := [.tmp 4]) rfl (.tmp rfl .nil) ⟨by unfold oneR; rw [if_neg (fun h => h p1), if_pos (.inl (.inr (by omega)))]; rfl, rfl⟩ (by repeat' (first | exact Cover.nil | exact Take.here | apply Cover.cons | apply Take.there))
      · refine g_yes rfl rfl ?_
        refine g_pure (p_fieldAddr rfl) rfl ?_
        refine g_yes rfl rfl ?_
        refine g_pure (p_load (by rfl) rfl (by first | (apply Has.own; (repeat' (first | exact Take.here | apply Take.there)); done) | exact Has.ro (by assumption)) (by first | rfl | assumption)) rfl ?_
        refine g_yes rfl rfl ?_
        refine g_pure (p_len (by rfl) rfl) rfl ?_
        refine g_yes rfl rfl ?_
        refine g_pure (p_fieldAddr rfl) rfl ?_
        refine g_yes rfl rfl ?_
        refine g_pure (p_load (by rfl) rfl (by first | (apply Has.own; (repeat' (first | exact Take.here | apply Take.there)); done) | exact Has.ro (by assumption)) (by first | rfl | assumption)) rfl ?_
        refine g_yes rfl rfl ?_
        refine g_pure (p_max rfl rfl) rfl ?_
        refine g_yes rfl rfl ?_
        refine g_pure (p_gtr rfl rfl) rfl ?_
        first | refine g_pure (p_pickt rfl rfl) rfl ?_ | refine g_pure (p_pickf rfl rfl) rfl ?_
        refine g_pure (p_assign rfl) rfl ?_
        refine g_nil ?_
        refine g_qt ?_
        refine g_ifd rfl (fun h4 => ?_) (fun h4 => ?_)
        · refine g_seq ?_
          refine g_region ?_
          refine g_pure (p_assign rfl) rfl ?_
          refine g_nil ?_
          refine g_qt ?_
          refine g_ret ?_
          refine g_qb_ret ?_
          refine g_qt_ret ?_
          exact g_post (rs := [.tmp 4]) rfl (.tmp rfl .nil) ⟨by unfold oneR; rw [if_neg (fun h => h p1), if_pos (.inr (by omega))]; rfl, rfl⟩ (by repeat' (first | exact Cover.nil | exact Take.here | apply Cover.cons | apply Take.there))
        · have p2 : ¬ ((64 < max x0.2.1.length x0.2.2.1.length ∨ 16384 < x0.2.2.2.2.1.length) ∨ 32768 < max (x0.2.2.2.2.2.length : Int) x0.2.2.2.1) := by omega
          refine g_seq ?_
          refine g_region ?_
          refine g_pure (p_fieldAddr rfl) rfl ?_
          refine g_pure (p_load (by rfl) rfl (by first | (apply Has.own; (repeat' (first | exact Take.here | apply Take.there)); done) | exact Has.ro (by assumption)) (by first | rfl | assumption)) rfl ?_
          refine g_pure (p_fieldAddr rfl) rfl ?_
          refine g_pure (p_load (by rfl) rfl (by first | (apply Has.own; (repeat' (first | exact Take.here | apply Take.there)); done) | exact Has.ro (by assumption)) (by first | rfl | assumption)) rfl ?_
          refine g_eff (e_bs (xs := [.tmp 44, .tmp 46]) rfl rfl rfl (by rfl) (by rfl) rfl (by rfl)) rfl (fun _ _ => ?_)
          rintro ⟨b47, rfl, rfl⟩
          have hfl : [x0.2.1, x0.2.2.1].flatten = x0.2.1 ++ x0.2.2.1 := by simp
          refine g_call (Hin := []) (Hr := ?hr2) (R := ?rr2) rfl rfl rfl ?hin2 ?hc2 ?hk2
          case hin2 => repeat' (first | exact Cover.nil | exact Take.here | apply Cover.cons | apply Take.there)
          case hc2 => intro ρ' hρ hR; exact concat_ok (lss := [x0.2.1, x0.2.2.1]) (two_rows (hi.mono hρ) (ho.mono hρ) (Take.ro (A := Blk b47 (.cells [.slice ia x0.2.1.length ic, .slice oa x0.2.2.1.length oc].toArray 22 (0, 0))) (by repeat' (first | exact Take.here | apply Take.there)) hR).blk) (by rw [hfl, List.length_append]; omega) (by simp)
          rintro _ _ ⟨ka, kc, rfl, rfl⟩
          refine g_pure (p_makeFunc rfl rfl) rfl ?_
          refine g_call (Hin := []) (Hr := ?hr3) (R := ?rr3) rfl rfl rfl ?hin3 ?hc3 ?hk3
          case hin3 => repeat' (first | exact Cover.nil | exact Take.here | apply Cover.cons | apply Take.there)
          case hc3 => intro ρ' hρ hR; exact anyI_ok ka kc [x0.2.1, x0.2.2.1].flatten (RSl.of_own (Take.ro (A := OwnSl 3 1 ka [x0.2.1, x0.2.2.1].flatten.length kc ([x0.2.1, x0.2.2.1].flatten.map encI)) (by repeat' (first | exact Take.here | apply Take.there)) hR)) (by rw [hfl, List.length_append]; omega) _ #[.pointer (some ⟨b2, 0, none⟩)] (fun t => !decide (validP im.1 t)) (fun l hl ρ2 h2 => one1_ok (ec := ec) (rc := rc) (ra := ra) (im := im) hel l (by rw [hfl, List.mem_append] at hl; exact hl.elim (hok.ii l) (hok.oi l)) (h2 _ _ (Take.ro (A := Blk b2 (.cells [.slice ea im.1.length ec, .slice ra im.2.length rc].toArray 25 (0, 0))) (by repeat' (first | exact Take.here | apply Take.there)) hR).blk))
          rintro _ _ ⟨rfl, rfl⟩
          refine g_pure (p_assign rfl) rfl ?_
          refine g_nil ?_
          refine g_qt ?_
          rw [hfl]
          refine g_if rfl (fun h5 => ?_) (fun h5 => ?_)
          · refine g_seq ?_
            refine g_region ?_
            refine g_pure (p_assign rfl) rfl ?_
            refine g_nil ?_
            refine g_qt ?_
            refine g_ret ?_
            refine g_qb_ret ?_
            refine g_qt_ret ?_
            exact g_post (rs := [.tmp 4]) rfl (.tmp rfl .nil) ⟨by unfold oneR; rw [if_neg (fun h => h p1), if_neg p2, if_pos h5]; rfl, rfl⟩ (by repeat' (first | exact Cover.nil | exact Take.here | apply Cover.cons | apply Take.there))
          · refine g_seq ?_
            refine g_region ?_
            refine g_pure (p_fieldAddr rfl) rfl ?_
            refine g_pure (p_load (by rfl) rfl (by first | (apply Has.own; (repeat' (first | exact Take.here | apply Take.there)); done) | exact Has.ro (by assumption)) (by first | rfl | assumption)) rfl ?_
            refine g_pure (p_fieldAddr rfl) rfl ?_
            refine g_pure (p_load (by rfl) rfl (by first | (apply Has.own; (repeat' (first | exact Take.here | apply Take.there)); done) | exact Has.ro (by assumption)) (by first | rfl | assumption)) rfl ?_
            refine g_pure (p_len (by rfl) rfl) rfl ?_
            refine g_pure (p_fieldAddr rfl) rfl ?_
            refine g_pure (p_load (by rfl) rfl (by first | (apply Has.own; (repeat' (first | exact Take.here | apply Take.there)); done) | exact Has.ro (by assumption)) (by first | rfl | assumption)) rfl ?_
            refine g_pure (p_len (by rfl) rfl) rfl ?_
            first | refine g_pure (p_addi rfl rfl (by omega)) rfl ?_ | refine g_pure (p_add rfl rfl) rfl ?_
            refine g_pure (p_lss rfl rfl) rfl ?_
            refine g_pure (p_assign rfl) rfl ?_
            refine g_nil ?_
            refine g_qt ?_
            refine g_ifd rfl (fun h6 => ?_) (fun h6 => ?_)
            · refine g_seq ?_
              refine g_region ?_
              refine g_pure (p_assign rfl) rfl ?_
              refine g_nil ?_
              refine g_qt ?_
              refine g_ret ?_
              refine g_qb_ret ?_
              refine g_qt_ret ?_
              exact g_post (rs := [.tmp 4]) rfl (.tmp rfl .nil) ⟨by unfold oneR; rw [if_neg (fun h => h p1), if_neg p2, if_neg (by rw [h5]; decide), if_pos (by omega)]; rfl, rfl⟩ (by repeat' (first | exact Cover.nil | exact Take.here | apply Cover.cons | apply Take.there))
            · refine g_seq ?_
              refine g_region ?_
              refine g_pure (p_fieldAddr rfl) rfl ?_
              refine g_pure (p_load (by rfl) rfl (by first | (apply Has.own; (repeat' (first | exact Take.here | apply Take.there)); done) | exact Has.ro (by assumption)) (by first | rfl | assumption)) rfl ?_
              refine g_call (Hin := []) (Hr := ?hr4) (R := ?rr4) rfl rfl rfl ?hin4 ?hc4 ?hk4
              case hin4 => repeat' (first | exact Cover.nil | exact Take.here | apply Cover.cons | apply Take.there)
              case hc4 => intro ρ' hρ hR; exact anyI_ok na nc x0.2.2.2.2.1 (hn.mono hρ) (by omega) _ #[] outB (fun l hl ρ2 h2 => one2_ok l)
              rintro _ _ ⟨rfl, rfl⟩
              refine g_pure (p_assign rfl) rfl ?_
              refine g_nil ?_
              refine g_qt ?_
              refine g_if rfl (fun h7 => ?_) (fun h7 => ?_)
              · refine g_seq ?_
                refine g_region ?_
                refine g_pure (p_assign rfl) rfl ?_
                refine g_nil ?_
                refine g_qt ?_
                refine g_ret ?_
                refine g_qb_ret ?_
                refine g_qt_ret ?_
                exact g_post (rs := [.tmp 4]) rfl (.tmp rfl .nil) ⟨by unfold oneR; rw [if_neg (fun h => h p1), if_neg p2, if_neg (by rw [h5]; decide), if_neg (by omega), if_pos h7]; rfl, rfl⟩ (by repeat' (first | exact Cover.nil | exact Take.here | apply Cover.cons | apply Take.there))
              · have hres : oneR im kr x0 = codeE im.2 kr x0.2.2.2.2.2.length 0 x0.2.2.2.2.2 := by unfold oneR; rw [if_neg (fun h => h p1), if_neg p2, if_neg (by rw [h5]; decide), if_neg (by omega), if_neg (by rw [h7]; decide)]
                rw [hres]
                refine g_skip ?_
                refine g_qb ?_
                refine g_qt ?_
                refine g_seq ?_
                refine g_seq ?_
                refine g_region ?_
                refine g_pure (p_fieldAddr rfl) rfl ?_
                refine g_pure (p_load (by rfl) rfl (by first | (apply Has.own; (repeat' (first | exact Take.here | apply Take.there)); done) | exact Has.ro (by assumption)) (by first | rfl | assumption)) rfl ?_
                refine g_pure (p_len (by rfl) rfl) rfl ?_
                refine g_pure (p_move rfl) rfl ?_
                refine g_nil ?_
                refine g_qt ?_
                refine g_block ?_
                refine g_loop (fun k : Nat => [(1, .int .i64 kr), (2, .pointer (some ⟨b2, 0, none⟩)), (5, .pointer (some ⟨b5, 0, none⟩)), (67, .slice ca x0.2.2.2.2.2.length cc), (68, .int .i64 x0.2.2.2.2.2.length), (69, .int .i64 k)])
                  (fun _ => [Blk b2 (.cells [.slice ea im.1.length ec, .slice ra im.2.length rc].toArray 25 (0, 0)), Blk b5 (.cells [.string (strB x0.1), .slice ia x0.2.1.length ic, .slice oa x0.2.2.1.length oc, .int .i64 x0.2.2.2.1, .slice na x0.2.2.2.2.1.length nc, .slice ca x0.2.2.2.2.2.length cc].toArray 45 (0, 0))])
                  (fun k => k ≤ x0.2.2.2.2.2.length ∧ codeE im.2 kr x0.2.2.2.2.2.length 0 x0.2.2.2.2.2 = codeE im.2 kr x0.2.2.2.2.2.length k (x0.2.2.2.2.2.drop k)) (fun k => x0.2.2.2.2.2.length - k) 0 ⟨Nat.zero_le _, rfl⟩ (by (repeat (first | exact trivial | refine ⟨by rfl, ?_⟩)); done) (by repeat' (first | exact Cover.nil | exact Take.here | apply Cover.cons | apply Take.there)) ?_
                rintro k ⟨hk, hk2⟩
                rw [hk2]
                refine g_seq ?_
                refine g_region ?_
                refine g_pure (p_lss rfl rfl) rfl ?_
                refine g_nil ?_
                refine g_qt ?_
                refine g_seq ?_
                refine g_ifd rfl (fun q => ?_) (fun q => ?_)
                · have hkl : k < x0.2.2.2.2.2.length := by omega
                  obtain ⟨c1, c2, c3⟩ := hcr (by omega)
                  have c4 := (c3 k hkl).1 (by decide)
                  rw [codeE_step im.2 kr x0.2.2.2.2.2.length x0.2.2.2.2.2 hkl] at hk2 ⊢
                  generalize x0.2.2.2.2.2[k] = ii at c4 hk2
                  refine g_skip ?_
                  refine g_qt ?_
                  refine g_seq ?_
                  refine g_block ?_
                  refine g_seq ?_
                  refine g_region ?_
                  refine g_pure (p_move rfl) rfl ?_
                  refine g_pure (p_indexAddr rfl rfl (by omega) (fun _ => c1)) rfl ?_
                  refine g_pure (p_loadN (by rfl) rfl (Has.ro c2) (by rw [Int.toNat_natCast]; exact c4)) rfl ?_
                  refine g_eff (e_alloc (by rfl)) rfl (fun _ _ => ?_)
                  rintro ⟨b7, rfl, rfl⟩
                  refine g_pure (p_assign rfl) rfl ?_
                  first | refine g_eff0 (e_storeO rfl rfl (by rfl) (by rfl) (by rfl) (by repeat' (first | exact Take.here | apply Take.there)) (by rfl)) (fun _ _ => ?_) | refine g_eff0 (e_storeN rfl rfl (by rfl) (by rfl) (by rfl) (by repeat' (first | exact Take.here | apply Take.there)) (by simp)) (fun _ _ => ?_)
                  rintro rfl
                  refine g_nil ?_
                  refine g_qt ?_
                  refine g_seq ?_
                  refine g_seq ?_
                  refine g_region ?_
                  first | refine g_pure (p_loadO (by rfl) rfl (by first | (apply Has.own; (repeat' (first | exact Take.here | apply Take.there)); done) | exact Has.ro (by assumption)) (by rfl)) rfl ?_ | refine g_pure (p_loadN (by rfl) rfl (by first | (apply Has.own; (repeat' (first | exact Take.here | apply Take.there)); done) | exact Has.ro (by assumption)) (by first | rfl | assumption)) rfl ?_
                  refine g_pure (p_move rfl) rfl ?_
                  first | refine g_pure (p_loadO (by rfl) rfl (by first | (apply Has.own; (repeat' (first | exact Take.here | apply Take.there)); done) | exact Has.ro (by assumption)) (by rfl)) rfl ?_ | refine g_pure (p_loadN (by rfl) rfl (by first | (apply Has.own; (repeat' (first | exact Take.here | apply Take.there)); done) | exact Has.ro (by assumption)) (by first | rfl | assumption)) rfl ?_
                  refine g_call (Hin := []) (Hr := ?hr5) (R := ?rr5) rfl rfl rfl ?hin5 ?hc5 ?hk5
                  case hin5 => repeat' (first | exact Cover.nil | exact Take.here | apply Cover.cons | apply Take.there)
                  case hc5 => intro ρ' hρ hR; exact form_ok (hO.mono hρ) (strB x0.1) ia oa na ca x0.2.1.length ic x0.2.2.1.length oc x0.2.2.2.2.1.length nc x0.2.2.2.2.2.length cc x0.2.2.2.1 k ii (by omega)
                  rintro _ _ ⟨rfl, rfl⟩
                  refine g_pure (p_not rfl) rfl ?_
                  refine g_nil ?_
                  refine g_qt ?_
                  refine g_if rfl (fun h8 => ?_) (fun h8 => ?_)
                  · have h8' : formP x0.2.2.2.2.2.length k ii = false := by simpa using h8
                    refine g_seq ?_
                    refine g_region ?_
                    refine g_pure (p_assign rfl) rfl ?_
                    refine g_nil ?_
                    refine g_qt ?_
                    refine g_ret ?_
                    refine g_qt_ret ?_
                    refine g_qb_ret ?_
                    refine g_qt_ret ?_
                    refine g_qn_ret ?_
                    refine g_qb_ret ?_
                    refine g_qt_ret ?_
                    exact g_post (rs := [.tmp 4]) rfl (.tmp rfl .nil) ⟨by rw [h8']; rfl, rfl⟩ (by repeat' (first | exact Cover.nil | exact Take.here | apply Cover.cons | apply Take.there))
                  · have h8' : formP x0.2.2.2.2.2.length k ii = true := by simpa using h8
                    rw [h8', if_pos rfl] at hk2 ⊢
                    refine g_skip ?_
                    refine g_qt ?_
                    refine g_seq ?_
                    refine g_region ?_
                    first | refine g_pure (p_loadO (by rfl) rfl (by first | (apply Has.own; (repeat' (first | exact Take.here | apply Take.there)); done) | exact Has.ro (by assumption)) (by rfl)) rfl ?_ | refine g_pure (p_loadN (by rfl) rfl (by first | (apply Has.own; (repeat' (first | exact Take.here | apply Take.there)); done) | exact Has.ro (by assumption)) (by first | rfl | assumption)) rfl ?_
                    refine g_pure (p_move rfl) rfl ?_
                    first | refine g_pure (p_loadO (by rfl) rfl (by first | (apply Has.own; (repeat' (first | exact Take.here | apply Take.there)); done) | exact Has.ro (by assumption)) (by rfl)) rfl ?_ | refine g_pure (p_loadN (by rfl) rfl (by first | (apply Has.own; (repeat' (first | exact Take.here | apply Take.there)); done) | exact Has.ro (by assumption)) (by first | rfl | assumption)) rfl ?_
                    refine g_call (Hin := []) (Hr := ?hr6) (R := ?rr6) rfl rfl rfl ?hin6 ?hc6 ?hk6
                    case hin6 => repeat' (first | exact Cover.nil | exact Take.here | apply Cover.cons | apply Take.there)
                    case hc6 => intro ρ' hρ hR; exact ranges_ok (ec := ec) (rc := rc) (hO.mono hρ) (h.mono hρ) kr hkr ii
                    rintro _ _ ⟨rfl, rfl⟩
                    refine g_pure (p_not rfl) rfl ?_
                    refine g_nil ?_
                    refine g_qt ?_
                    refine g_if rfl (fun h9 => ?_) (fun h9 => ?_)
                    · have h9' : rangesP im.2 kr ii = false := by simpa using h9
                      refine g_seq ?_
                      refine g_region ?_
                      refine g_pure (p_assign rfl) rfl ?_
                      refine g_nil ?_
                      refine g_qt ?_
                      refine g_ret ?_
                      refine g_qb_ret ?_
                      refine g_qt_ret ?_
                      refine g_qn_ret ?_
                      refine g_qb_ret ?_
                      refine g_qt_ret ?_
                      exact g_post (rs := [.tmp 4]) rfl (.tmp rfl .nil) ⟨by rw [h9']; rfl, rfl⟩ (by repeat' (first | exact Cover.nil | exact Take.here | apply Cover.cons | apply Take.there))
                    · have h9' : rangesP im.2 kr ii = true := by simpa using h9
                      rw [h9', if_pos rfl] at hk2 ⊢
                      refine g_skip ?_
                      refine g_qb ?_
                      refine g_qt ?_
                      refine g_region ?_
                      first | refine g_pure (p_addi rfl rfl (by omega)) rfl ?_ | refine g_pure (p_add rfl rfl) rfl ?_
                      refine g_pure (p_move rfl) rfl ?_
                      refine g_nil ?_
                      refine g_qn ?_
                      rw [← hk2]
                      exact g_next (k + 1) (by (repeat (first | exact trivial | refine ⟨by rfl, ?_⟩)); done) (by repeat' (first | exact Cover.nil | exact Take.here | apply Cover.cons | apply Take.there)) ⟨hkl, hk2⟩ (by omega)
                · have hke : k = x0.2.2.2.2.2.length := by omega
                  subst hke
                  refine g_exit ?_
                  refine g_qt_exit ?_
                  refine g_qn_exit ?_
                  refine g_qb_exit ?_
                  refine g_qt ?_
                  refine g_seq ?_
                  refine g_region ?_
                  refine g_pure (p_assign rfl) rfl ?_
                  refine g_nil ?_
                  refine g_qt ?_
                  refine g_ret ?_
                  exact g_post (rs := [.tmp 4]) rfl (.tmp rfl .nil) ⟨by rw [List.drop_eq_nil_of_le (Nat.le_refl _)]; rfl, rfl⟩ (by repeat' (first | exact Cover.nil | exact Take.here | apply Cover.cons | apply Take.there))

theorem rtsE_step (im : Im) {k n : Nat} (hk : k < n) : rtsE im k (n - k) = if oneP im k = 0 then rtsE im (k + 1) (n - (k + 1)) else oneP im k := by
  obtain ⟨m, hm⟩ : ∃ m, n - k = m + 1 := ⟨n - k - 1, by omega⟩
  rw [hm, show n - (k + 1) = m by omega]; rfl
theorem checkA_ok {ρ : Nat → Obj → Prop} (hO : OpsK ρ) {ea ra : Option Addr} {ec rc : Nat} {im : Im} (h : ImI ρ ea ra im) :
    Con Tryz.prog ρ 14 #[.agg #[.slice ea im.1.length ec, .slice ra im.2.length rc]] [] (fun v H => v = .int .i64 (checkP im) ∧ H = []) := by
  have hrl := h.rl
  have hel := h.el
  refine con_intro Tryz.func14 Tryz.call14 rfl Tryz.ntmps14 rfl (L := [(0, _)]) rfl fun w hh => ?_
  refine g_seq ?_
  refine g_region ?_
  refine g_eff (e_box rfl (by rfl)) rfl (fun _ _ => ?_)
  rintro ⟨b1, rfl, rfl⟩
  refine g_pure (p_assign rfl) rfl ?_
  refine g_nil ?_
  refine g_qt ?_
  refine g_seq ?_
  refine g_seq ?_
  refine g_region ?_
  refine g_pure (p_fieldAddr rfl) rfl ?_
  refine g_pure (p_load (by rfl) rfl (by first | (apply Has.own; (repeat' (first | exact Take.here | apply Take.there)); done) | exact Has.ro (by assumption)) (by first | rfl | assumption)) rfl ?_
  refine g_pure (p_len (by rfl) rfl) rfl ?_
  refine g_pure (p_gtr rfl rfl) rfl ?_
  refine g_pure (p_move rfl) rfl ?_
  refine g_splitd rfl rfl (fun h1 => ?_) (fun h1 => ?_)
  · refine g_no rfl rfl rfl rfl ?_
    refine g_no rfl rfl rfl rfl ?_
    refine g_no rfl rfl rfl rfl ?_
    refine g_no rfl rfl rfl rfl ?_
    first | refine g_pure (p_pickt rfl rfl) rfl ?_ | refine g_pure (p_pickf rfl rfl) rfl ?_
    refine g_nil ?_
    refine g_qt ?_
    refine g_ift rfl ?_
    refine g_seq ?_
    refine g_region ?_
    refine g_pure (p_assign rfl) rfl ?_
    refine g_nil ?_
    refine g_qt ?_
    refine g_ret ?_
    refine g_qt_ret ?_
    exact g_post (rs := [.tmp 2]) rfl (.tmp rfl .nil) ⟨by unfold checkP; rw [if_pos (.inl (by omega))]; rfl, rfl⟩ (by repeat' (first | exact Cover.nil | exact Take.here | apply Cover.cons | apply Take.there))
  · refine g_yes rfl rfl ?_
    refine g_pure (p_fieldAddr rfl) rfl ?_
    refine g_yes rfl rfl ?_
    refine g_pure (p_load (by rfl) rfl (by first | (apply Has.own; (repeat' (first | exact Take.here | apply Take.there)); done) | exact Has.ro (by assumption)) (by first | rfl | assumption)) rfl ?_
    refine g_yes rfl rfl ?_
    refine g_pure (p_len (by rfl) rfl) rfl ?_
    refine g_yes rfl rfl ?_
    refine g_pure (p_gtr rfl rfl) rfl ?_
    first | refine g_pure (p_pickt rfl rfl) rfl ?_ | refine g_pure (p_pickf rfl rfl) rfl ?_
    refine g_nil ?_
    refine g_qt ?_
    refine g_ifd rfl (fun h2 => ?_) (fun h2 => ?_)
    · refine g_seq ?_
      refine g_region ?_
      refine g_pure (p_assign rfl) rfl ?_
      refine g_nil ?_
      refine g_qt ?_
      refine g_ret ?_
      refine g_qt_ret ?_
      exact g_post (rs := [.tmp 2]) rfl (.tmp rfl .nil) ⟨by unfold checkP; rw [if_pos (.inr (by omega))]; rfl, rfl⟩ (by repeat' (first | exact Cover.nil | exact Take.here | apply Cover.cons | apply Take.there))
    · have p1 : ¬ (24 < im.1.length ∨ 96 < im.2.length) := by omega
      refine g_skip ?_
      refine g_qt ?_
      refine g_seq ?_
      refine g_seq ?_
      refine g_region ?_
      refine g_pure (p_fieldAddr rfl) rfl ?_
      refine g_pure (p_load (by rfl) rfl (by first | (apply Has.own; (repeat' (first | exact Take.here | apply Take.there)); done) | exact Has.ro (by assumption)) (by first | rfl | assumption)) rfl ?_
      refine g_call (Hin := []) (Hr := ?hr7) (R := ?rr7) rfl rfl rfl ?hin7 ?hc7 ?hk7
      case hin7 => repeat' (first | exact Cover.nil | exact Take.here | apply Cover.cons | apply Take.there)
      case hc7 => intro ρ' hρ hR; exact anyI_ok ea ec im.1 (h.es.mono hρ) (by omega) _ #[] (fun n => decide (n < 1) || decide (16 < n)) (fun l hl ρ2 h2 => check1_ok l)
      rintro _ _ ⟨rfl, rfl⟩
      refine g_nil ?_
      refine g_qt ?_
      refine g_if rfl (fun h3 => ?_) (fun h3 => ?_)
      · refine g_seq ?_
        refine g_region ?_
        refine g_pure (p_assign rfl) rfl ?_
        refine g_nil ?_
        refine g_qt ?_
        refine g_ret ?_
        refine g_qt_ret ?_
        exact g_post (rs := [.tmp 2]) rfl (.tmp rfl .nil) ⟨by unfold checkP; rw [if_neg p1, if_pos h3]; rfl, rfl⟩ (by repeat' (first | exact Cover.nil | exact Take.here | apply Cover.cons | apply Take.there))
      · refine g_skip ?_
        refine g_qt ?_
        refine g_seq ?_
        refine g_seq ?_
        refine g_region ?_
        refine g_pure (p_fieldAddr rfl) rfl ?_
        refine g_pure (p_load (by rfl) rfl (by first | (apply Has.own; (repeat' (first | exact Take.here | apply Take.there)); done) | exact Has.ro (by assumption)) (by first | rfl | assumption)) rfl ?_
        refine g_pure (p_len (by rfl) rfl) rfl ?_
        refine g_pure (p_eql rfl rfl) rfl ?_
        refine g_nil ?_
        refine g_qt ?_
        refine g_ifd rfl (fun h4 => ?_) (fun h4 => ?_)
        · refine g_seq ?_
          refine g_region ?_
          refine g_pure (p_assign rfl) rfl ?_
          refine g_nil ?_
          refine g_qt ?_
          refine g_ret ?_
          refine g_qt_ret ?_
          exact g_post (rs := [.tmp 2]) rfl (.tmp rfl .nil) ⟨by unfold checkP; rw [if_neg p1, if_neg (by rw [h3]; decide), if_pos (by omega)]; rfl, rfl⟩ (by repeat' (first | exact Cover.nil | exact Take.here | apply Cover.cons | apply Take.there))
        · have hres : checkP im = rtsE im 0 (im.2.length - 0) := by unfold checkP; rw [if_neg p1, if_neg (by rw [h3]; decide), if_neg (by omega)]; rfl
          rw [hres]
          refine g_skip ?_
          refine g_qt ?_
          refine g_seq ?_
          refine g_seq ?_
          refine g_region ?_
          refine g_pure (p_fieldAddr rfl) rfl ?_
          refine g_pure (p_load (by rfl) rfl (by first | (apply Has.own; (repeat' (first | exact Take.here | apply Take.there)); done) | exact Has.ro (by assumption)) (by first | rfl | assumption)) rfl ?_
          refine g_pure (p_len (by rfl) rfl) rfl ?_
          refine g_pure (p_move rfl) rfl ?_
          refine g_nil ?_
          refine g_qt ?_
          refine g_block ?_
          refine g_loop (fun k : Nat => [(1, .pointer (some ⟨b1, 0, none⟩)), (24, .int .i64 im.2.length), (25, .int .i64 k)])
            (fun _ => [Blk b1 (.cells [.slice ea im.1.length ec, .slice ra im.2.length rc].toArray 25 (0, 0))])
            (fun k => k ≤ im.2.length ∧ rtsE im 0 (im.2.length - 0) = rtsE im k (im.2.length - k)) (fun k => im.2.length - k) 0 ⟨Nat.zero_le _, rfl⟩ (by (repeat (first | exact trivial | refine ⟨by rfl, ?_⟩)); done) (by repeat' (first | exact Cover.nil | exact Take.here | apply Cover.cons | apply Take.there)) ?_
          rintro k ⟨hk, hk2⟩
          rw [hk2]
          refine g_seq ?_
          refine g_region ?_
          refine g_pure (p_lss rfl rfl) rfl ?_
          refine g_nil ?_
          refine g_qt ?_
          refine g_seq ?_
          refine g_ifd rfl (fun q => ?_) (fun q => ?_)
          · have hkl : k < im.2.length := by omega
            rw [rtsE_step im hkl] at hk2 ⊢
            refine g_skip ?_
            refine g_qt ?_
            refine g_seq ?_
            refine g_block ?_
            refine g_seq ?_
            refine g_region ?_
            refine g_pure (p_move rfl) rfl ?_
            refine g_pure (p_assign rfl) rfl ?_
            refine g_nil ?_
            refine g_qt ?_
            refine g_seq ?_
            refine g_region ?_
            first | refine g_pure (p_loadO (by rfl) rfl (by first | (apply Has.own; (repeat' (first | exact Take.here | apply Take.there)); done) | exact Has.ro (by assumption)) (by rfl)) rfl ?_ | refine g_pure (p_loadN (by rfl) rfl (by first | (apply Has.own; (repeat' (first | exact Take.here | apply Take.there)); done) | exact Has.ro (by assumption)) (by first | rfl | assumption)) rfl ?_
            refine g_pure (p_move rfl) rfl ?_
            refine g_call (Hin := []) (Hr := ?hr8) (R := ?rr8) rfl rfl rfl ?hin8 ?hc8 ?hk8
            case hin8 => repeat' (first | exact Cover.nil | exact Take.here | apply Cover.cons | apply Take.there)
            case hc8 => intro ρ' hρ hR; exact one_ok (ec := ec) (rc := rc) (hO.mono hρ) (h.mono hρ) k hkl
            rintro _ _ ⟨rfl, rfl⟩
            refine g_pure (p_assign rfl) rfl ?_
            refine g_nil ?_
            refine g_qt ?_
            refine g_seq ?_
            refine g_region ?_
            refine g_pure (p_move rfl) rfl ?_
            refine g_pure (p_neq rfl rfl) rfl ?_
            refine g_nil ?_
            refine g_qt ?_
            generalize oneP im k = E0 at hk2 ⊢
            refine g_ifnd rfl (fun h5 => ?_) (fun h5 => ?_)
            · refine g_seq ?_
              refine g_region ?_
              refine g_pure (p_move rfl) rfl ?_
              refine g_pure (p_assign rfl) rfl ?_
              refine g_nil ?_
              refine g_qt ?_
              refine g_ret ?_
              refine g_qb_ret ?_
              refine g_qt_ret ?_
              refine g_qn_ret ?_
              refine g_qb_ret ?_
              refine g_qt_ret ?_
              exact g_post (rs := [.tmp 2]) rfl (.tmp rfl .nil) ⟨by rw [if_neg h5]; rfl, rfl⟩ (by repeat' (first | exact Cover.nil | exact Take.here | apply Cover.cons | apply Take.there))
            · rw [if_pos (by omega)] at hk2 ⊢
              refine g_skip ?_
              refine g_qb ?_
              refine g_qt ?_
              refine g_region ?_
              first | refine g_pure (p_addi rfl rfl (by omega)) rfl ?_ | refine g_pure (p_add rfl rfl) rfl ?_
              refine g_pure (p_move rfl) rfl ?_
              refine g_nil ?_
              refine g_qn ?_
              rw [← hk2]
              exact g_next (k + 1) (by (repeat (first | exact trivial | refine ⟨by rfl, ?_⟩)); done) (by repeat' (first | exact Cover.nil | exact Take.here | apply Cover.cons | apply Take.there)) ⟨hkl, hk2⟩ (by omega)
          · have hke : k = im.2.length := by omega
            rw [show im.2.length - k = 0 by omega]
            refine g_exit ?_
            refine g_qt_exit ?_
            refine g_qn_exit ?_
            refine g_qb_exit ?_
            refine g_qt ?_
            refine g_seq ?_
            refine g_region ?_
            refine g_pure (p_assign rfl) rfl ?_
            refine g_nil ?_
            refine g_qt ?_
            refine g_ret ?_
            exact g_post (rs := [.tmp 2]) rfl (.tmp rfl .nil) ⟨rfl, rfl⟩ (by repeat' (first | exact Cover.nil | exact Take.here | apply Cover.cons | apply Take.there))
end Go.Proofs.YtcnfcoojmbjdlaaGreatDoor
/- Chapter 26: contracts of the library that write one row; strconv.AppendInt; slices.Sort and Compact over numbers. Conditions: what the library's table of powers holds. -/
namespace Go.Z
set_option maxRecDepth 8000
set_option linter.unusedVariables false
set_option linter.unusedSimpArgs false
set_option linter.unusedSectionVars false
open Go Go.Sort
theorem sat_blk {b : Nat} {o : Obj} {hp : Hp} (s : Sat [Blk b o] hp) : hp = one b o := by
  obtain ⟨h1, h2, e1, e2, _, e3⟩ := s
  have e1' : h1 = one b o := e1
  have e2' : h2 = fun _ => none := e2
  subst e1'; subst e2'
  rw [e3]; funext c; unfold join; cases one b o c <;> rfl
theorem one_self {b : Nat} {o : Obj} : one b o b = some o := by simp [one]
theorem blk_sat {b : Nat} {o : Obj} : Sat [Blk b o] (one b o) :=
  ⟨one b o, fun _ => none, rfl, rfl, fun b => .inr rfl, by funext c; unfold join; cases one b o c <;> rfl⟩
theorem put_zero {α : Type} [Inhabited α] (enc : α → Value) (d : List α) (cs : List Value) (h : d.length ≤ cs.length) : putCells enc 0 d.toArray cs.toArray = (d.map enc ++ cs.drop d.length).toArray := by
  apply Array.ext_getElem?
  intro k
  simp only [putCells, Array.getElem?_mapIdx, List.getElem?_toArray, List.size_toArray]
  by_cases hk : k < d.length
  · rw [List.getElem?_append_left (by simpa using hk), List.getElem?_map, List.getElem?_eq_getElem hk, List.getElem?_eq_getElem (by omega : k < cs.length)]
    simp only [Option.map_some, Nat.zero_le, Nat.zero_add, true_and, hk, if_true, Nat.sub_zero]
    rw [getElem!_pos _ k (by simpa using hk)]
    try rfl
  · rw [List.getElem?_append_right (by simp; omega), List.length_map, List.getElem?_drop, show d.length + (k - d.length) = k by omega]
    have hf : ¬ (0 ≤ k ∧ k < 0 + d.length) := by omega
    cases cs[k]? with
    | none => rfl
    | some v => simp only [Option.map_some, if_neg hf]
theorem ms_put {α : Type} [Inhabited α] (enc : α → Value) {ρ : Nat → Obj → Prop} {w : World} {b : Nat} {cs : Array Value} {T : TypeId} {fz : Nat × Nat} (hw : w.heap[b]? = some (.cells cs T fz)) (hr : ∀ b' o, ρ b' o → w.heap[b']? = some o ∧ one b (.cells cs T fz) b' = none) (d : Array α) (off k : Nat) (os : Array Obj) :
    Ms ⟨ρ, w, one b (.cells cs T fz)⟩ [Blk b (.cells (putCells enc off d cs) T fz)] (grow (putRow enc (w.drewN k) b off d) os) := by
  have hb := lt_of_heap hw
  have hh : (grow (putRow enc (w.drewN k) b off d) os).heap = (w.heap.modify b (onCells (putCells enc off d))) ++ os := rfl
  have hat : ∀ c, c < w.heap.size → (grow (putRow enc (w.drewN k) b off d) os).heap[c]? = if b = c then (w.heap[c]?).map (onCells (putCells enc off d)) else w.heap[c]? := fun c hc => by
    rw [hh, Array.getElem?_append_left (by simpa using hc), Array.getElem?_modify]
  refine ⟨rfl, rfl, rfl, ?_, fun c hc hn => ?_, fun c o ho => ?_, one b (.cells (putCells enc off d cs) T fz), blk_sat, fun c o ho => ?_, fun c hc => ?_, fun c o ho => ?_⟩
  · rw [hh]; simp
  · have : b ≠ c := fun e => by subst e; simp [one] at hn
    rw [hat c hc, if_neg this]
  · have h1 := hr c o ho
    have : b ≠ c := fun e => by subst e; simp [one] at h1
    rw [hat c (lt_of_heap h1.1), if_neg this, h1.1]
  · unfold one at ho
    split at ho
    · rename_i e; subst e; cases ho
      rw [hat c hb, if_pos rfl, hw]; rfl
    · cases ho
  · refine .inl fun h => hc ?_
    have h' : one b (.cells cs T fz) c = none := h
    unfold one at h' ⊢
    split at h'
    · cases h'
    · rename_i e; rw [if_neg e]
  · have h1 := (hr c o ho).2
    unfold one at h1 ⊢
    split at h1
    · cases h1
    · rename_i e; rw [if_neg e]
theorem holds_blk {α : Type} [Inhabited α] (enc : α → Value) {w : World} {b : Nat} {cs : List Value} {T : TypeId} (hw : w.heap[b]? = some (.cells cs.toArray T (0, 0))) (d : List α) (h : cs.take d.length = d.map enc) : Go.Sort.Holds enc w b 0 d.toArray := fun j hj => by
  have hj' : j < d.length := by simpa using hj
  refine ⟨?_, ?_⟩
  · rw [Nat.zero_add, getElem!_pos _ j hj]
    have h1 : (cs.take d.length)[j]? = some (enc d[j]) := by rw [h, List.getElem?_map, List.getElem?_eq_getElem hj']; rfl
    rw [List.getElem?_take, if_pos hj'] at h1
    simp [World.cell?, hw, h1]
  · simp [World.frozen?, hw]
end Go.Z
namespace Go.Proofs.YtcnfcoojmbjdlaaGreatDoor
set_option maxRecDepth 8000
set_option linter.unusedVariables false
set_option linter.unusedSimpArgs false
set_option linter.unusedSectionVars false
open Go Go.Z Go.Z.Asm Go.RowKit Go.Sort

/-- the library's table of powers -/
def TabK (ρ : Nat → Obj → Prop) : Prop := Knows ρ fun w => Lib.TabIs Tryz.prog w "internal/strconv.uint64pow10" .u64 Lib.pow10Tab

theorem small_ok {ρ : Nat → Obj → Prop} (i : Nat) (h : i < 100) : Con Tryz.prog ρ 128 #[.int .i64 i] [] (fun v H => v = .string (strB (Lib.decDigits i)) ∧ H = []) :=
  con_below Tryz.call128 fun w hw =>
    Calls.mono (show Calls Tryz.prog 128 #[.int .i64 i] w _ from Any.internal_strconv_small lays283 i h w) fun e w' ⟨e1, e2⟩ => ⟨_, e1, rfl, by subst e2; exact Below.refl _ _⟩
theorem ndig_ok {ρ : Nat → Obj → Prop} (hk : TabK ρ) (u : Nat) (h1 : 1 ≤ u) (h2 : u < 18446744073709551616) : Con Tryz.prog ρ 129 #[.int .u64 u] [] (fun v H => v = .int .i64 (Lib.nDigits u) ∧ H = []) :=
  con_below Tryz.call129 fun w hw =>
    Calls.mono (show Calls Tryz.prog 129 #[.int .u64 u] w _ from Any.internal_strconv_numDigits laysM284 u h1 h2 w (hk w hw)) fun e w' ⟨e1, e2⟩ => ⟨_, e1, rfl, by subst e2; exact Below.refl _ _⟩
theorem fmt_ok {ρ : Nat → Obj → Prop} (b u : Nat) (T : TypeId) (h2 : u < 18446744073709551616) (hnd : Lib.nDigits u ≤ 24) : Con Tryz.prog ρ 130 #[.slice (some ⟨b, 0, none⟩) (Lib.nDigits u) 24, .int .u64 u] [Blk b (.cells (List.replicate 24 (Value.int .u8 0)).toArray T (0, 0))]
    (fun v H => v = .tuple #[] ∧ H = [Blk b (.cells (Lib.byteCells (Lib.decDigits u) ++ List.replicate (24 - Lib.nDigits u) (Value.int .u8 0)).toArray T (0, 0))]) :=
  ⟨Tryz.call130, fun w hp sa su r => by
    have e := sat_blk sa
    subst e
    have hw := su b _ one_self
    have hH : Go.Sort.Holds (fun (b : UInt8) => Value.int .u8 (b.toNat : Int)) w b 0 (List.replicate (Lib.nDigits u) (0 : UInt8)).toArray := holds_blk _ hw _ (by rw [List.length_replicate, List.take_replicate, Nat.min_eq_left hnd, List.map_replicate]; rfl)
    have h := Any.internal_strconv_formatBase10 lays285 b 0 24 u (List.replicate (Lib.nDigits u) (0 : UInt8)).toArray w hH (by rw [List.size_toArray, List.length_replicate]; exact Lib.lt_pow_nDigits u) h2 (by rw [List.size_toArray, List.length_replicate]; omega)
    rw [List.size_toArray, List.length_replicate] at h
    refine Calls.mono (show Calls Tryz.prog 130 #[.slice (some ⟨b, 0, none⟩) (Lib.nDigits u) 24, .int .u64 u] w _ from h) fun e w' ⟨e1, n, v', dk, e2, hF⟩ => ⟨_, _, e1, ⟨rfl, rfl⟩, ?_⟩
    have hdk : dk.toList = Lib.decDigits u := by
      apply List.ext_getElem
      · rw [Array.length_toList, hF.size, Lib.decDigits_length]
      · intro j h1 h2
        rw [Lib.row_is_numeral hF j h2, getElem!_pos _ j (by simpa using h1)]
        rfl
    have hms := ms_put (fun (b : UInt8) => Value.int .u8 (b.toNat : Int)) hw r dk 0 n #[]
    have hput := put_zero (fun (b : UInt8) => Value.int .u8 (b.toNat : Int)) dk.toList (List.replicate 24 (Value.int .u8 0)) (by rw [hdk, Lib.decDigits_length, List.length_replicate]; exact hnd)
    rw [Array.toArray_toList] at hput
    rw [hput, grow_empty] at hms
    have ew : w' = putRow (fun (b : UInt8) => Value.int .u8 (b.toNat : Int)) (w.drewN n) b 0 dk := e2
    rw [ew]
    rw [hdk, Lib.decDigits_length, List.drop_replicate] at hms
    exact hms⟩

theorem slen (l : List UInt8) : (strB l).size = l.length := rfl
end Go.Proofs.YtcnfcoojmbjdlaaGreatDoor
/- Chapter 26: strconv.AppendInt at a row of the caller's; a line. Conditions: what the library's table of powers holds (TabK). -/
namespace Go.Z
set_option maxRecDepth 8000
set_option linter.unusedVariables false
set_option linter.unusedSimpArgs false
set_option linter.unusedSectionVars false
open Go
section
variable {P : Program} {M : Mx} {n : Nat} {L : Fr} {H H' : List Assn} {x y : Operand} {t ty tz : TypeId} {ps : String} {af : Array Edge} {gd : Option (Nat × Bool)} {dd : Option Tmp}
theorem p_sliceArr {k : IntKind} {j : Int} {b m e : Nat} {yt ye : Ty} [ht : TyC P t yt] (hd : yt.d = .array m e) [he : TyC P e ye] (h1 : ev L x = some (.pointer (some ⟨b, 0, none⟩))) (h2 : ev L y = some (.int k j)) (hj : 0 ≤ j ∧ j ≤ m) :
    Pur P M n L H ⟨dd, .slice t x none (some y) none, ty, ps, af, gd⟩ (.slice (some ⟨b, 0, none⟩) j.toNat m) := fun a w ha _ => by
  have e6 : (Addr.mk b 0 none).add 0 = ⟨b, 0, none⟩ := by unfold Addr.add; split <;> simp_all
  simp [execOp, Instr.sliceAt, Instr.slice, Instr.sliceBounds, Instr.sliceBound, Instr.sureAddr, asIntOf, ha.ev h1, ha.ev h2, ht.run_u, hd, hj, he.run_size, e6]
theorem slAt_blk {b : Nat} {cs : List Value} {T : TypeId} {fz : Nat × Nat} {m : Nat} {news : List Value} (tk : Take H (Blk b (.cells cs.toArray T fz)) H') (hn : news.length = m) (hc : cs.take m = news) : ∀ w, Ms M H w → SlAt w 1 (some ⟨b, 0, none⟩) m news := fun w hm => by
  refine ⟨by omega, fun _ => ⟨b, 0, cs, T, fz, rfl, hm.blk tk, fun j v hj => ?_⟩⟩
  rw [← hc, List.getElem?_take] at hj
  split at hj
  · rw [Nat.zero_add]; exact hj
  · cases hj
end
end Go.Z
namespace Go.Z.Asm
set_option maxRecDepth 8000
set_option linter.unusedVariables false
set_option linter.unusedSimpArgs false
set_option linter.unusedSectionVars false
open Go Go.Z Go.Lib
theorem bytes_app (a b : List UInt8) : byteCells (a ++ b) = byteCells a ++ byteCells b := by simp [byteCells]
theorem bytes_one (l : List UInt8) : one1 (byteCells l) = true := by simp [one1, byteCells, Value.oneCell']
theorem nd_le (u : Nat) (h : u < 18446744073709551616) : nDigits u ≤ 20 := by
  by_cases h1 : 1 ≤ u
  · have := numDigits_eq u h1 h; split at this <;> omega
  · have : u = 0 := by omega
    subst this; rw [nDigits_small (by omega)]; omega
theorem u64_pos {i : Int} (h0 : 0 ≤ i) (h : I64 i) : IntKind.u64.wrap i = ((i.toNat : Nat) : Int) := by
  obtain ⟨h1, h2⟩ := h
  show i % 18446744073709551616 = _
  omega
theorem u64_neg {i : Int} (h0 : i < 0) (h : I64 i) : IntKind.u64.wrap (0 - IntKind.u64.wrap i) = ((i.natAbs : Nat) : Int) := by
  obtain ⟨h1, h2⟩ := h
  show (0 - i % 18446744073709551616) % 18446744073709551616 = _
  omega
end Go.Z.Asm
namespace Go.Proofs.YtcnfcoojmbjdlaaGreatDoor
set_option maxRecDepth 8000
set_option linter.unusedVariables false
set_option linter.unusedSimpArgs false
set_option linter.unusedSectionVars false
open Go Go.Z Go.Z.Asm Go.RowKit Go.Lib

instance ty24 : TyC Tryz.prog 152 ⟨Go.TypeDesc.array 24 5, 24, (Go.Value.agg #[Go.Value.int Go.IntKind.u8 0, Go.Value.int Go.IntKind.u8 0, Go.Value.int Go.IntKind.u8 0, Go.Value.int Go.IntKind.u8 0, Go.Value.int Go.IntKind.u8 0, Go.Value.int Go.IntKind.u8 0, Go.Value.int Go.IntKind.u8 0, Go.Value.int Go.IntKind.u8 0, Go.Value.int Go.IntKind.u8 0, Go.Value.int Go.IntKind.u8 0, Go.Value.int Go.IntKind.u8 0, Go.Value.int Go.IntKind.u8 0, Go.Value.int Go.IntKind.u8 0, Go.Value.int Go.IntKind.u8 0, Go.Value.int Go.IntKind.u8 0, Go.Value.int Go.IntKind.u8 0, Go.Value.int Go.IntKind.u8 0, Go.Value.int Go.IntKind.u8 0, Go.Value.int Go.IntKind.u8 0, Go.Value.int Go.IntKind.u8 0, Go.Value.int Go.IntKind.u8 0, Go.Value.int Go.IntKind.u8 0, Go.Value.int Go.IntKind.u8 0, Go.Value.int Go.IntKind.u8 0]), 24⟩ := ⟨Tryz.underlying152, Tryz.t152, Tryz.type152, rfl, rfl, rfl⟩
theorem appu_ok {ρ : Nat → Obj → Prop} (hk : TabK ρ) (u : Nat) (hu : u < 18446744073709551616) (a : Option Addr) (cap : Nat) (l : List UInt8) (hb : l.length + 20 ≤ 140737488355328) :
    Con Tryz.prog ρ 117 #[.slice a l.length cap, .int .u64 u, .int .i64 10] [OwnSl 5 1 a l.length cap (byteCells l)] (fun v H => ∃ a2 c2, v = .slice a2 (l ++ decDigits u).length c2 ∧ H = [OwnSl 5 1 a2 (l ++ decDigits u).length c2 (byteCells (l ++ decDigits u))]) := by
  have hnd := nd_le u hu
  have hdl := decDigits_length u
  have hlen : (l ++ decDigits u).length = l.length + nDigits u := by rw [List.length_append, hdl]
  refine con_intro Tryz.func117 Tryz.call117 rfl Tryz.ntmps117 rfl (L := [(0, _), (1, _), (2, _)]) rfl fun w hh => ?_
  refine g_seq ?_
  refine g_region ?_
  refine g_pure (p_assign rfl) rfl ?_
  refine g_nil ?_
  refine g_qt ?_
  refine g_seq ?_
  refine g_seq ?_
  refine g_region ?_
  refine g_pure (p_move rfl) rfl ?_
  refine g_pure (p_eql rfl rfl) rfl ?_
  refine g_nil ?_
  refine g_qt ?_
  refine g_ift rfl ?_
  refine g_seq ?_
  refine g_seq ?_
  refine g_region ?_
  refine g_pure (p_move rfl) rfl ?_
  refine g_pure (p_lss rfl rfl) rfl ?_
  refine g_nil ?_
  refine g_qt ?_
  refine g_ifd rfl (fun h1 => ?_) (fun h1 => ?_)
  · have hs : (strB (decDigits u)).size = nDigits u := hdl
    refine g_seq ?_
    refine g_region ?_
    refine g_pure (p_move rfl) rfl ?_
    refine g_pure (p_move rfl) rfl ?_
    refine g_pure (p_convi (by rfl) rfl (by omega)) rfl ?_
    refine g_call (Hin := []) (Hr := ?hr1) (R := ?rr1) rfl rfl rfl ?hin1 ?hc1 ?hk1
    case hin1 => repeat' (first | exact Cover.nil | exact Take.here | apply Cover.cons | apply Take.there)
    case hc1 => intro ρ' hρ hR; exact small_ok u (by omega)
    rintro _ _ ⟨rfl, rfl⟩
    refine g_eff (e_appStr (by rfl) (by rfl) (by rfl) (by rfl) rfl rfl (by repeat' (first | exact Take.here | apply Take.there)) (by rw [hs]; omega)) rfl (fun _ _ => ?_)
    rintro ⟨a17, c17, rfl, rfl⟩
    refine g_pure (p_assign rfl) rfl ?_
    refine g_nil ?_
    refine g_qt ?_
    refine g_ret ?_
    refine g_qt_ret ?_
    refine g_qt_ret ?_
    rw [show byteCells l ++ strCells (strB (decDigits u)) = byteCells (l ++ decDigits u) from (bytes_app l _).symm, show l.length + (strB (decDigits u)).size = (l ++ decDigits u).length by rw [hs, hlen]]
    exact g_post (rs := [.tmp 6]) rfl (.tmp rfl .nil) ⟨a17, c17, rfl, rfl⟩ (by repeat' (first | exact Cover.nil | exact Take.here | apply Cover.cons | apply Take.there))
  · refine g_skip ?_
    refine g_qt ?_
    refine g_seq ?_
    refine g_region ?_
    refine g_eff (e_alloc (by rfl)) rfl (fun _ _ => ?_)
    rintro ⟨b7, rfl, rfl⟩
    refine g_nil ?_
    refine g_qt ?_
    refine g_seq ?_
    refine g_region ?_
    refine g_pure (p_move rfl) rfl ?_
    refine g_call (Hin := []) (Hr := ?hr2) (R := ?rr2) rfl rfl rfl ?hin2 ?hc2 ?hk2
    case hin2 => repeat' (first | exact Cover.nil | exact Take.here | apply Cover.cons | apply Take.there)
    case hc2 => intro ρ' hρ hR; exact ndig_ok (hk.mono hρ) u (by omega) hu
    rintro _ _ ⟨rfl, rfl⟩
    refine g_pure (p_assign rfl) rfl ?_
    refine g_nil ?_
    refine g_qt ?_
    refine g_seq ?_
    refine g_region ?_
    refine g_pure (p_move rfl) rfl ?_
    refine g_pure (p_sliceArr (he := ty5) (by rfl) rfl rfl (by omega)) rfl ?_
    refine g_pure (p_move rfl) rfl ?_
    rw [Int.toNat_natCast]
    refine g_call (Hin := [Blk b7 (.cells (List.replicate 24 (Value.int .u8 0)).toArray 152 (0, 0))]) (Hr := ?hr3) (R := ?rr3) rfl rfl rfl ?hin3 ?hc3 ?hk3
    case hin3 => repeat' (first | exact Cover.nil | exact Take.here | apply Cover.cons | apply Take.there)
    case hc3 => intro ρ' hρ hR; exact fmt_ok b7 u 152 hu (by omega)
    rintro _ _ ⟨rfl, rfl⟩
    refine g_nil ?_
    refine g_qt ?_
    refine g_seq ?_
    refine g_region ?_
    refine g_pure (p_move rfl) rfl ?_
    refine g_pure (p_move rfl) rfl ?_
    refine g_pure (p_sliceArr (he := ty5) (by rfl) rfl rfl (by omega)) rfl ?_
    refine g_eff (e_appendS (news := byteCells (decDigits u)) (by rfl) (by rfl) rfl rfl (slAt_blk (T := 152) (by repeat' (first | exact Take.here | apply Take.there)) (by rw [byteCells_length, hdl]; exact Int.toNat_natCast _) (by rw [Int.toNat_natCast, ← hdl, ← byteCells_length]; exact List.take_left)) (bytes_one _) (by repeat' (first | exact Take.here | apply Take.there)) (by rw [Int.toNat_natCast]; show (l.length + nDigits u) * 1 ≤ _; omega) (by rw [Int.toNat_natCast]; omega)) rfl (fun _ _ => ?_)
    rintro ⟨a27, c27, rfl, rfl⟩
    refine g_pure (p_assign rfl) rfl ?_
    refine g_nil ?_
    refine g_qt ?_
    refine g_ret ?_
    refine g_qt_ret ?_
    rw [Int.toNat_natCast, ← bytes_app, ← hlen]
    exact g_post (rs := [.tmp 6]) rfl (.tmp rfl .nil) ⟨a27, c27, rfl, rfl⟩ (by repeat' (first | exact Cover.nil | exact Take.here | apply Cover.cons | apply Take.there))
end Go.Proofs.YtcnfcoojmbjdlaaGreatDoor
/- Chapter 26: strconv.AppendInt at a row of the caller's; a line. Conditions: what the library's table of powers holds (TabK). -/
namespace Go.Z.Asm
set_option maxRecDepth 8000
set_option linter.unusedVariables false
set_option linter.unusedSimpArgs false
set_option linter.unusedSectionVars false
open Go Go.Z Go.Lib
def lineC (c : List UInt8) (l : List Int) : List UInt8 := c ++ (l.map fun n => 32 :: itoa n).flatten
theorem line_eq (c w : List UInt8) (l : List Int) : c ++ lineP w l = lineC (c ++ w) l ++ [10] := by unfold lineP lineC; simp
theorem lineC_step (c : List UInt8) (l : List Int) {k : Nat} (hk : k < l.length) : lineC c (l.take (k + 1)) = (lineC c (l.take k) ++ [32]) ++ itoa l[k] := by
  unfold lineC
  rw [List.take_add_one, List.getElem?_eq_getElem hk, Option.toList_some, List.map_append, List.flatten_append]; simp
theorem lineC_len (c : List UInt8) : ∀ l : List Int, (∀ x ∈ l, I64 x) → (lineC c l).length ≤ c.length + 22 * l.length
  | [], _ => by unfold lineC; simp
  | x :: l, h => by
    have h1 := lineC_len c l fun y hy => h y (List.mem_cons_of_mem _ hy)
    have h2 := itoa_length_le x (h x List.mem_cons_self).1 (h x List.mem_cons_self).2
    unfold lineC at h1 ⊢
    rw [List.length_append] at h1 ⊢
    rw [List.map_cons, List.flatten_cons, List.length_append, List.length_cons, List.length_cons]
    omega
end Go.Z.Asm
namespace Go.Proofs.YtcnfcoojmbjdlaaGreatDoor
set_option maxRecDepth 8000
set_option linter.unusedVariables false
set_option linter.unusedSimpArgs false
set_option linter.unusedSectionVars false
open Go Go.Z Go.Z.Asm Go.RowKit Go.Lib

theorem appi_ok {ρ : Nat → Obj → Prop} (hk : TabK ρ) (i : Int) (hi : I64 i) (a : Option Addr) (cap : Nat) (l : List UInt8) (hb : l.length + 21 ≤ 140737488355328) :
    Con Tryz.prog ρ 98 #[.slice a l.length cap, .int .i64 i, .int .i64 10] [OwnSl 5 1 a l.length cap (byteCells l)] (fun v H => ∃ a2 c2, v = .slice a2 (l ++ itoa i).length c2 ∧ H = [OwnSl 5 1 a2 (l ++ itoa i).length c2 (byteCells (l ++ itoa i))]) := by
  obtain ⟨hi1, hi2⟩ := id hi
  refine con_intro Tryz.func98 Tryz.call98 rfl Tryz.ntmps98 rfl (L := [(0, _), (1, _), (2, _)]) rfl fun w hh => ?_
  refine g_seq ?_
  refine g_region ?_
  refine g_pure (p_assign rfl) rfl ?_
  refine g_nil ?_
  refine g_qt ?_
  refine g_seq ?_
  refine g_region ?_
  refine g_pure (p_move rfl) rfl ?_
  refine g_pure (p_conv (by rfl) rfl) rfl ?_
  refine g_pure (p_assign rfl) rfl ?_
  refine g_nil ?_
  refine g_qt ?_
  refine g_seq ?_
  refine g_seq ?_
  refine g_region ?_
  refine g_pure (p_move rfl) rfl ?_
  refine g_pure (p_lss rfl rfl) rfl ?_
  refine g_nil ?_
  refine g_qt ?_
  refine g_ifd rfl (fun h1 => ?_) (fun h1 => ?_)
  · have e : l ++ itoa i = (l ++ [45]) ++ decDigits i.natAbs := by unfold itoa; rw [if_pos h1]; simp
    rw [e]
    refine g_seq ?_
    refine g_region ?_
    refine g_pure (p_move rfl) rfl ?_
    refine g_eff (e_bs (xs := [.const (.int .u8 45)]) rfl rfl rfl (by rfl) (by rfl) rfl (by rfl)) rfl (fun _ _ => ?_)
    rintro ⟨b13, rfl, rfl⟩
    refine g_eff (e_appendO (by rfl) (by rfl) rfl rfl (by first | (apply Has.own; (repeat' (first | exact Take.here | apply Take.there)); done) | exact Has.ro (by assumption)) (by rfl) (by rfl) (by repeat' (first | exact Take.here | apply Take.there)) (by omega) (by first | omega | (dsimp only; omega) | (simp <;> omega)) (by omega)) rfl (fun _ _ => ?_)
    rintro ⟨a14, c14, rfl, rfl⟩
    refine g_pure (p_assign rfl) rfl ?_
    refine g_nil ?_
    refine g_qt ?_
    refine g_region ?_
    refine g_pure (p_move rfl) rfl ?_
    first | refine g_pure (p_negi rfl (by omega)) rfl ?_ | refine g_pure (p_neg rfl) rfl ?_
    refine g_pure (p_assign rfl) rfl ?_
    refine g_nil ?_
    refine g_qt ?_
    refine g_seq ?_
    refine g_region ?_
    refine g_pure (p_move rfl) rfl ?_
    refine g_pure (p_move rfl) rfl ?_
    refine g_pure (p_move rfl) rfl ?_
    rw [u64_neg h1 hi, show byteCells l ++ [Value.int IntKind.u8 45] = byteCells (l ++ [45]) from (bytes_app l [45]).symm, show l.length + 1 = (l ++ [45]).length by simp]
    refine g_call (Hin := ?hi1) (Hr := ?hr1) (R := ?rr1) rfl rfl rfl ?hin1 ?hc1 ?hk1
    case hc1 => intro ρ' hρ hR; exact appu_ok (hk.mono hρ) i.natAbs (by omega) _ _ (l ++ [45]) (by simp; omega)
    case hin1 => repeat' (first | exact Cover.nil | exact Take.here | apply Cover.cons | apply Take.there)
    rintro _ _ ⟨a20, c20, rfl, rfl⟩
    refine g_pure (p_assign rfl) rfl ?_
    refine g_nil ?_
    refine g_qt ?_
    refine g_ret ?_
    exact g_post (rs := [.tmp 6]) rfl (.tmp rfl .nil) ⟨a20, c20, rfl, rfl⟩ (by repeat' (first | exact Cover.nil | exact Take.here | apply Cover.cons | apply Take.there))
  · have e : l ++ itoa i = l ++ decDigits i.toNat := by unfold itoa; rw [if_neg h1]
    rw [e]
    refine g_skip ?_
    refine g_qt ?_
    refine g_seq ?_
    refine g_region ?_
    refine g_pure (p_move rfl) rfl ?_
    refine g_pure (p_move rfl) rfl ?_
    refine g_pure (p_move rfl) rfl ?_
    rw [u64_pos (by omega) hi]
    refine g_call (Hin := ?hi2) (Hr := ?hr2) (R := ?rr2) rfl rfl rfl ?hin2 ?hc2 ?hk2
    case hc2 => intro ρ' hρ hR; exact appu_ok (hk.mono hρ) i.toNat (by omega) _ _ l (by omega)
    case hin2 => repeat' (first | exact Cover.nil | exact Take.here | apply Cover.cons | apply Take.there)
    rintro _ _ ⟨a20, c20, rfl, rfl⟩
    refine g_pure (p_assign rfl) rfl ?_
    refine g_nil ?_
    refine g_qt ?_
    refine g_ret ?_
    exact g_post (rs := [.tmp 6]) rfl (.tmp rfl .nil) ⟨a20, c20, rfl, rfl⟩ (by repeat' (first | exact Cover.nil | exact Take.here | apply Cover.cons | apply Take.there))
theorem appI_ok {ρ : Nat → Obj → Prop} (hk : TabK ρ) (i : Int) (hi : I64 i) (a : Option Addr) (cap : Nat) (l : List UInt8) (hb : l.length + 21 ≤ 140737488355328) :
    Con Tryz.prog ρ 70 #[.slice a l.length cap, .int .i64 i, .int .i64 10] [OwnSl 5 1 a l.length cap (byteCells l)] (fun v H => ∃ a2 c2, v = .slice a2 (l ++ itoa i).length c2 ∧ H = [OwnSl 5 1 a2 (l ++ itoa i).length c2 (byteCells (l ++ itoa i))]) := by
  refine con_intro Tryz.func70 Tryz.call70 rfl Tryz.ntmps70 rfl (L := [(0, _), (1, _), (2, _)]) rfl fun w hh => ?_
  refine g_seq ?_
  refine g_region ?_
  refine g_pure (p_assign rfl) rfl ?_
  refine g_nil ?_
  refine g_qt ?_
  refine g_seq ?_
  refine g_region ?_
  refine g_pure (p_move rfl) rfl ?_
  refine g_pure (p_move rfl) rfl ?_
  refine g_pure (p_move rfl) rfl ?_
  refine g_call (Hin := ?hi3) (Hr := ?hr3) (R := ?rr3) rfl rfl rfl ?hin3 ?hc3 ?hk3
  case hc3 => intro ρ' hρ hR; exact appi_ok (hk.mono hρ) i hi _ _ l hb
  case hin3 => repeat' (first | exact Cover.nil | exact Take.here | apply Cover.cons | apply Take.there)
  rintro _ _ ⟨a20, c20, rfl, rfl⟩
  refine g_pure (p_assign rfl) rfl ?_
  refine g_nil ?_
  refine g_qt ?_
  refine g_ret ?_
  exact g_post (rs := [.tmp 6]) rfl (.tmp rfl .nil) ⟨a20, c20, rfl, rfl⟩ (by repeat' (first | exact Cover.nil | exact Take.here | apply Cover.cons | apply Take.there))

theorem line_ok {ρ : Nat → Obj → Prop} (hk : TabK ρ) (a : Option Addr) (cap : Nat) (c wd : List UInt8) (la : Option Addr) (lc : Nat) (l : List Int) (hl : RSl ρ 1 la l.length (l.map encI)) (hi : ∀ x ∈ l, I64 x) (hb : c.length + wd.length + 22 * l.length + 1 ≤ 140737488355328) :
    Con Tryz.prog ρ 42 #[.slice a c.length cap, .string (strB wd), .slice la l.length lc] [OwnSl 5 1 a c.length cap (byteCells c)] (fun v H => ∃ a2 c2, v = .slice a2 (c ++ lineP wd l).length c2 ∧ H = [OwnSl 5 1 a2 (c ++ lineP wd l).length c2 (byteCells (c ++ lineP wd l))]) := by
  obtain ⟨_, b, off, cs, T, fz, hr⟩ := hl
  have hs : (strB wd).size = wd.length := rfl
  have hcw : (c ++ wd).length = c.length + wd.length := List.length_append
  rw [line_eq]
  refine con_intro Tryz.func42 Tryz.call42 rfl Tryz.ntmps42 rfl (L := [(0, _), (1, _), (2, _)]) rfl fun w hh => ?_
  refine g_seq ?_
  refine g_region ?_
  refine g_pure (p_assign rfl) rfl ?_
  refine g_nil ?_
  refine g_qt ?_
  refine g_seq ?_
  refine g_region ?_
  refine g_pure (p_move rfl) rfl ?_
  refine g_pure (p_move rfl) rfl ?_
  refine g_eff (e_appStr (by rfl) (by rfl) (by rfl) (by rfl) rfl rfl (by repeat' (first | exact Take.here | apply Take.there)) (by rw [hs]; omega)) rfl (fun _ _ => ?_)
  rintro ⟨a11, c11, rfl, rfl⟩
  refine g_pure (p_assign rfl) rfl ?_
  refine g_nil ?_
  refine g_qt ?_
  refine g_seq ?_
  refine g_seq ?_
  refine g_region ?_
  refine g_pure (p_move rfl) rfl ?_
  refine g_pure (p_len (by rfl) rfl) rfl ?_
  refine g_pure (p_move rfl) rfl ?_
  refine g_nil ?_
  refine g_qt ?_
  refine g_block ?_
  rw [show byteCells c ++ strCells (strB wd) = byteCells (lineC (c ++ wd) (l.take 0)) by rw [show lineC (c ++ wd) (l.take 0) = c ++ wd by simp [lineC]]; exact (bytes_app c wd).symm, show c.length + (strB wd).size = (lineC (c ++ wd) (l.take 0)).length by rw [show lineC (c ++ wd) (l.take 0) = c ++ wd by simp [lineC]]; exact hcw.symm]
  refine g_loop (fun q : Nat × Option Addr × Nat => [(0, .slice q.2.1 (lineC (c ++ wd) (l.take q.1)).length q.2.2), (12, .slice la l.length lc), (13, .int .i64 l.length), (14, .int .i64 q.1)])
    (fun q => [OwnSl 5 1 q.2.1 (lineC (c ++ wd) (l.take q.1)).length q.2.2 (byteCells (lineC (c ++ wd) (l.take q.1)))]) (fun q => q.1 ≤ l.length) (fun q => l.length - q.1) (0, a11, c11) (Nat.zero_le _) (by (repeat (first | exact trivial | refine ⟨by rfl, ?_⟩)); done) (by repeat' (first | exact Cover.nil | exact Take.here | apply Cover.cons | apply Take.there)) ?_
  rintro ⟨k, oa, oc⟩ hk1
  dsimp only at hk1 ⊢
  have hlen := lineC_len (c ++ wd) (l.take k) fun x hx => hi x (List.mem_of_mem_take hx)
  have htk : (l.take k).length ≤ k := List.length_take_le ..
  refine g_seq ?_
  refine g_region ?_
  refine g_pure (p_lss rfl rfl) rfl ?_
  refine g_nil ?_
  refine g_qt ?_
  refine g_seq ?_
  refine g_ifd rfl (fun q => ?_) (fun q => ?_)
  · have hkl : k < l.length := by omega
    have hst := lineC_step (c ++ wd) l hkl
    have hx : (l.map encI)[k]? = some (.int .i64 l[k]) := mapI _ hkl
    generalize lineC (c ++ wd) (l.take k) = d at hst hlen ⊢
    rw [hcw] at hlen
    refine g_skip ?_
    refine g_qt ?_
    refine g_seq ?_
    refine g_block ?_
    refine g_seq ?_
    refine g_region ?_
    refine g_pure (p_indexAddr rfl rfl (by omega) (fun _ => (hr (by omega)).1)) rfl ?_
    refine g_pure (p_load (v := .int .i64 l[k]) (by rfl) rfl (Has.ro (hr (by omega)).2.1) (by simpa using (hr (by omega)).2.2 k _ hx)) rfl ?_
    refine g_pure (p_assign rfl) rfl ?_
    refine g_nil ?_
    refine g_qt ?_
    refine g_region ?_
    refine g_pure (p_move rfl) rfl ?_
    refine g_eff (e_bs (xs := [.const (.int .u8 32)]) rfl rfl rfl (by rfl) (by rfl) rfl (by rfl)) rfl (fun _ _ => ?_)
    rintro ⟨b19, rfl, rfl⟩
    refine g_eff (e_appendO (by rfl) (by rfl) rfl rfl (by first | (apply Has.own; (repeat' (first | exact Take.here | apply Take.there)); done) | exact Has.ro (by assumption)) (by rfl) (by rfl) (by repeat' (first | exact Take.here | apply Take.there)) (by omega) (by first | omega | (dsimp only; omega) | (simp <;> omega)) (by omega)) rfl (fun _ _ => ?_)
    rintro ⟨a20, c20, rfl, rfl⟩
    refine g_pure (p_move rfl) rfl ?_
    rw [show byteCells d ++ [Value.int IntKind.u8 32] = byteCells (d ++ [32]) from (bytes_app d [32]).symm, show d.length + 1 = (d ++ [32]).length by simp]
    refine g_call (Hin := ?hi4) (Hr := ?hr4) (R := ?rr4) rfl rfl rfl ?hin4 ?hc4 ?hk4
    case hc4 => intro ρ' hρ hR; exact appI_ok (hk.mono hρ) l[k] (hi _ (List.getElem_mem hkl)) _ _ (d ++ [32]) (by simp; omega)
    case hin4 => repeat' (first | exact Cover.nil | exact Take.here | apply Cover.cons | apply Take.there)
    rintro _ _ ⟨a22, c22, rfl, rfl⟩
    refine g_pure (p_assign rfl) rfl ?_
    refine g_nil ?_
    refine g_qb ?_
    refine g_qt ?_
    refine g_region ?_
    first | refine g_pure (p_addi rfl rfl (by omega)) rfl ?_ | refine g_pure (p_add rfl rfl) rfl ?_
    refine g_pure (p_move rfl) rfl ?_
    refine g_nil ?_
    refine g_qn ?_
    rw [← hst]
    exact g_next (k + 1, a22, c22) (by (repeat (first | exact trivial | refine ⟨by rfl, ?_⟩)); done) (by repeat' (first | exact Cover.nil | exact Take.here | apply Cover.cons | apply Take.there)) hkl (by dsimp only; omega)
  · have hke : k = l.length := by omega
    subst hke
    rw [List.take_length] at hlen ⊢
    generalize lineC (c ++ wd) l = d at hlen ⊢
    rw [hcw] at hlen
    refine g_exit ?_
    refine g_qt_exit ?_
    refine g_qn_exit ?_
    refine g_qb_exit ?_
    refine g_qt ?_
    refine g_seq ?_
    refine g_region ?_
    refine g_pure (p_move rfl) rfl ?_
    refine g_eff (e_bs (xs := [.const (.int .u8 10)]) rfl rfl rfl (by rfl) (by rfl) rfl (by rfl)) rfl (fun _ _ => ?_)
    rintro ⟨b25, rfl, rfl⟩
    refine g_eff (e_appendO (by rfl) (by rfl) rfl rfl (by first | (apply Has.own; (repeat' (first | exact Take.here | apply Take.there)); done) | exact Has.ro (by assumption)) (by rfl) (by rfl) (by repeat' (first | exact Take.here | apply Take.there)) (by omega) (by first | omega | (dsimp only; omega) | (simp <;> omega)) (by omega)) rfl (fun _ _ => ?_)
    rintro ⟨a26, c26, rfl, rfl⟩
    refine g_pure (p_assign rfl) rfl ?_
    refine g_nil ?_
    refine g_qt ?_
    refine g_ret ?_
    rw [show byteCells d ++ [Value.int IntKind.u8 10] = byteCells (d ++ [10]) from (bytes_app d [10]).symm, show d.length + 1 = (d ++ [10]).length by simp]
    exact g_post (rs := [.tmp 6]) rfl (.tmp rfl .nil) ⟨a26, c26, rfl, rfl⟩ (by repeat' (first | exact Cover.nil | exact Take.here | apply Cover.cons | apply Take.there))
end Go.Proofs.YtcnfcoojmbjdlaaGreatDoor
/- Chapter 26, plain: what an accepted image is like; lengths of texts. Conditions: none. -/
namespace Go.Z.Asm
set_option maxRecDepth 8000
set_option linter.unusedVariables false
set_option linter.unusedSimpArgs false
set_option linter.unusedSectionVars false
open Go Go.Z Go.Lib
theorem rtsE_zero (im : Im) : ∀ (m k : Nat), rtsE im k m = 0 → ∀ j, k ≤ j → j < k + m → oneP im j = 0
  | 0, k, _, j, h1, h2 => by omega
  | m + 1, k, h, j, h1, h2 => by
    unfold rtsE at h
    by_cases h0 : oneP im k = 0
    · rw [if_pos h0] at h
      by_cases hj : j = k
      · subst hj; exact h0
      · exact rtsE_zero im m (k + 1) h j (by omega) (by omega)
    · rw [if_neg h0] at h; exact absurd h h0
structure RtGood (im : Im) (k : Nat) (r : Rt) : Prop where
  tl : titleP r.1 = true
  il : r.2.1.length ≤ 64
  ol : r.2.2.1.length ≤ 64
  zl : r.2.2.2.2.1.length ≤ 16384
  cl : r.2.2.2.2.2.length ≤ 32768
  rl : r.2.2.2.1 ≤ 32768
  io : (r.2.1.length : Int) + r.2.2.1.length ≤ r.2.2.2.1
  ty : (r.2.1 ++ r.2.2.1).any (fun t => !decide (validP im.1 t)) = false
  zi : r.2.2.2.2.1.any outB = false
  co : codeE im.2 k r.2.2.2.2.2.length 0 r.2.2.2.2.2 = 0
theorem oneR_zero {im : Im} {k : Nat} {r : Rt} (h : oneR im k r = 0) : RtGood im k r := by
  unfold oneR at h
  by_cases h1 : titleP r.1 = true
  · rw [if_neg (fun h => h h1)] at h
    by_cases h2 : (64 < max r.2.1.length r.2.2.1.length ∨ 16384 < r.2.2.2.2.1.length) ∨ 32768 < max (r.2.2.2.2.2.length : Int) r.2.2.2.1
    · rw [if_pos h2] at h; omega
    · rw [if_neg h2] at h
      cases h3 : (r.2.1 ++ r.2.2.1).any (fun t => !decide (validP im.1 t))
      · rw [h3, if_neg (by decide)] at h
        by_cases h4 : r.2.2.2.1 < (r.2.1.length : Int) + r.2.2.1.length
        · rw [if_pos h4] at h; omega
        · rw [if_neg h4] at h
          cases h5 : r.2.2.2.2.1.any outB
          · rw [h5, if_neg (by decide)] at h
            exact ⟨h1, by omega, by omega, by omega, by omega, by omega, by omega, h3, h5, h⟩
          · rw [h5, if_pos rfl] at h; omega
      · rw [h3, if_pos rfl] at h; omega
  · rw [if_pos h1] at h; omega
theorem checkP_zero {im : Im} (h : checkP im = 0) : im.1.length ≤ 24 ∧ im.2.length ≤ 96 ∧ 0 < im.2.length ∧ ∀ k (hk : k < im.2.length), RtGood im k im.2[k] := by
  unfold checkP at h
  by_cases h1 : 24 < im.1.length ∨ 96 < im.2.length
  · rw [if_pos h1] at h; omega
  · rw [if_neg h1] at h
    split at h
    · omega
    · split at h
      · omega
      · refine ⟨by omega, by omega, by omega, fun k hk => oneR_zero ?_⟩
        rw [← oneR_eq im k hk]
        exact rtsE_zero im _ 0 h k (Nat.zero_le _) (by omega)
theorem codeE_zero (rts : List Rt) (k : Nat) (len : Int) : ∀ (l : List Ins) (j : Nat), codeE rts k len j l = 0 → ∀ i (hi : i < l.length), formP len ((j + i : Nat) : Int) l[i] = true ∧ rangesP rts k l[i] = true
  | x :: l, j, h, i, hi => by
    unfold codeE at h
    cases h1 : formP len j x
    · rw [h1] at h; simp at h
    · rw [h1, if_pos rfl] at h
      cases h2 : rangesP rts k x
      · rw [h2] at h; simp at h
      · rw [h2, if_pos rfl] at h
        match i, hi with
        | 0, _ => exact ⟨h1, h2⟩
        | i + 1, hi =>
          have := codeE_zero rts k len l (j + 1) h i (by simpa using hi)
          rw [show j + 1 + i = j + (i + 1) by omega] at this
          exact this
theorem lineP_len (w : List UInt8) (l : List Int) (h : ∀ x ∈ l, I64 x) : (lineP w l).length ≤ w.length + 22 * l.length + 1 := by
  have h1 := lineC_len w l h
  have h2 := line_eq [] w l
  rw [List.nil_append, List.nil_append] at h2
  rw [h2, List.length_append, List.length_singleton]
  omega
theorem word_len (op : Int) : (opRow op).1.length ≤ 5 := by
  by_cases h : knownP op
  · rcases op_cases h with rfl | rfl | rfl | rfl | rfl | rfl | rfl | rfl | rfl | rfl <;> decide
  · unfold opRow; rw [if_neg h]; decide
theorem used_fields {i : Ins} {x : Int} (h : x ∈ usedP i) : x = i.2.1 ∨ x = i.2.2.1 ∨ x = i.2.2.2.1 ∨ x = i.2.2.2.2 := by
  unfold usedP at h
  rw [List.mem_map] at h
  obtain ⟨⟨a, b⟩, h1, rfl⟩ := h
  have h2 := (List.of_mem_zip (List.mem_filter.1 h1).1).2
  simpa [fieldsV] using h2
theorem used_len (i : Ins) : (usedP i).length ≤ 4 := by
  unfold usedP
  rw [List.length_map]
  exact Nat.le_trans (List.length_filter_le ..) (by rw [List.length_zip]; exact Nat.min_le_right ..)
theorem insT_len {i : Ins} (h : I64 i.2.1 ∧ I64 i.2.2.1 ∧ I64 i.2.2.2.1 ∧ I64 i.2.2.2.2) : (insT i).length ≤ 94 := by
  have h1 := lineP_len (opRow i.1).1 (usedP i) fun x hx => by
    rcases used_fields hx with rfl | rfl | rfl | rfl
    · exact h.1
    · exact h.2.1
    · exact h.2.2.1
    · exact h.2.2.2
  have h2 := word_len i.1
  have h3 := used_len i
  unfold insT
  omega
theorem strB_app (a b : List UInt8) : strB (a ++ b) = strB a ++ strB b := by
  unfold strB
  apply ByteArray.ext
  simp
theorem flat_step {α : Type} (f : α → List UInt8) (l : List α) {k : Nat} (hk : k < l.length) : ((l.take (k + 1)).map f).flatten = ((l.take k).map f).flatten ++ f l[k] := by
  rw [List.take_add_one, List.getElem?_eq_getElem hk, Option.toList_some, List.map_append, List.flatten_append]; simp
theorem rsl_nil {ρ : Nat → Obj → Prop} {size : Nat} : RSl ρ size none 0 [] := ⟨by simp, 0, 0, [], 0, (0, 0), fun h => absurd h (Nat.lt_irrefl 0)⟩
def headT (r : Rt) : List UInt8 :=
  lineP ([114, 111, 117, 116, 105, 110, 101, 32] ++ r.1) [] ++ lineP [105, 110] r.2.1 ++ lineP [111, 117, 116] r.2.2.1 ++ lineP [114, 101, 103, 115] [r.2.2.2.1] ++ lineP [105, 110, 105, 116] r.2.2.2.2.1
theorem rtT_eq (r : Rt) : rtT r = headT r ++ (r.2.2.2.2.2.map insT).flatten ++ lineP [101, 110, 100] [] := rfl
end Go.Z.Asm
/- Chapter 26: the text of an image. Conditions: what the table of operations (OpsK) and the library's table of powers (TabK) hold. -/
namespace Go.Z
set_option maxRecDepth 8000
set_option linter.unusedVariables false
set_option linter.unusedSimpArgs false
set_option linter.unusedSectionVars false
theorem own_bytes {e : TypeId} {a : Option Addr} {k cap : Nat} {xs : List Value} (h0 : 0 < k) : ∀ h, OwnSl e 1 a k cap xs h → OwnB e a k cap xs h := fun h ⟨h1, h2⟩ => by
  rcases h2 with ⟨_, h3, _⟩ | ⟨g, cur, r1, r2, r3, r4, r5, r6⟩
  · omega
  · exact ⟨by omega, g, cur, (0, 0), r1, r2, r3, by omega, by rw [← r5, Nat.mul_one], .inl rfl, r6⟩
end Go.Z
namespace Go.Z.Asm
set_option maxRecDepth 8000
set_option linter.unusedVariables false
set_option linter.unusedSimpArgs false
set_option linter.unusedSectionVars false
open Go Go.Z Go.Lib
def usedT (i : Ins) (n : Nat) : List Int := (((pairs i).take n).filter fun p => decide (p.1 ≠ 0)).map (·.2)
theorem usedT_step (i : Ins) {n kd : Nat} {x : Int} (hn : n < 4) (h : (pairs i)[n]'(by rw [pairs_len]; exact hn) = (kd, x)) : usedT i (n + 1) = if kd = 0 then usedT i n else usedT i n ++ [x] := by
  unfold usedT
  rw [List.take_add_one, List.getElem?_eq_getElem (by rw [pairs_len]; exact hn), h, Option.toList_some, List.filter_append, List.map_append]
  by_cases h0 : kd = 0
  · rw [if_pos h0]; simp [h0]
  · rw [if_neg h0]; simp [h0]
theorem usedT_all (i : Ins) : usedT i 4 = usedP i := by
  unfold usedT
  rw [List.take_of_length_le (by rw [pairs_len]; omega)]; rfl
theorem usedT_len (i : Ins) (n : Nat) (h : n ≤ 4) : (usedT i n).length ≤ n := by
  unfold usedT
  rw [List.length_map]
  exact Nat.le_trans (List.length_filter_le ..) (List.length_take_le ..)
end Go.Z.Asm
namespace Go.Proofs.YtcnfcoojmbjdlaaGreatDoor
set_option maxRecDepth 8000
set_option linter.unusedVariables false
set_option linter.unusedSimpArgs false
set_option linter.unusedSectionVars false
open Go Go.Z Go.Z.Asm Go.RowKit Go.Lib

theorem textA_ok {ρ : Nat → Obj → Prop} (hO : OpsK ρ) (hk : TabK ρ) {ea ra : Option Addr} {ec rc : Nat} {im : Im} (h : ImI ρ ea ra im) :
    Con Tryz.prog ρ 23 #[.agg #[.slice ea im.1.length ec, .slice ra im.2.length rc]] [] (fun v H => v = .tuple #[.string (strB (if checkP im = 0 then textP im else [])), .int .i64 (checkP im)] ∧ H = []) := by
  have hrl := h.rl
  have hel := h.el
  refine con_intro Tryz.func23 Tryz.call23 rfl Tryz.ntmps23 rfl (L := [(0, _)]) rfl fun w hh => ?_
  refine g_seq ?_
  refine g_region ?_
  refine g_eff (e_box rfl (by rfl)) rfl (fun _ _ => ?_)
  rintro ⟨b1, rfl, rfl⟩
  refine g_pure (p_assign rfl) rfl ?_
  refine g_pure (p_assign rfl) rfl ?_
  refine g_nil ?_
  refine g_qt ?_
  refine g_seq ?_
  refine g_seq ?_
  refine g_region ?_
  first | refine g_pure (p_loadO (by rfl) rfl (by first | (apply Has.own; (repeat' (first | exact Take.here | apply Take.there)); done) | exact Has.ro (by assumption)) (by rfl)) rfl ?_ | refine g_pure (p_loadN (by rfl) rfl (by first | (apply Has.own; (repeat' (first | exact Take.here | apply Take.there)); done) | exact Has.ro (by assumption)) (by first | rfl | assumption)) rfl ?_
  refine g_call (Hin := []) (Hr := ?hr1) (R := ?rr1) rfl rfl rfl ?hin1 ?hc1 ?hk1
  case hin1 => repeat' (first | exact Cover.nil | exact Take.here | apply Cover.cons | apply Take.there)
  case hc1 => intro ρ' hρ hR; exact checkA_ok (ec := ec) (rc := rc) (hO.mono hρ) (h.mono hρ)
  rintro _ _ ⟨rfl, rfl⟩
  refine g_pure (p_assign rfl) rfl ?_
  refine g_nil ?_
  refine g_qt ?_
  refine g_seq ?_
  refine g_region ?_
  refine g_pure (p_move rfl) rfl ?_
  refine g_pure (p_neq rfl rfl) rfl ?_
  refine g_nil ?_
  refine g_qt ?_
  generalize hE : checkP im = E
  refine g_ifnd rfl (fun h1 => ?_) (fun h1 => ?_)
  · refine g_seq ?_
    refine g_region ?_
    refine g_pure (p_move rfl) rfl ?_
    refine g_pure (p_assign rfl) rfl ?_
    refine g_pure (p_assign rfl) rfl ?_
    refine g_nil ?_
    refine g_qt ?_
    refine g_ret ?_
    refine g_qt_ret ?_
    exact g_post (rs := [.tmp 2, .tmp 3]) rfl (.tmp rfl (.tmp rfl .nil)) ⟨by rw [if_neg h1]; rfl, rfl⟩ (by repeat' (first | exact Cover.nil | exact Take.here | apply Cover.cons | apply Take.there))
  · have h1' : E = 0 := by omega
    subst h1'
    obtain ⟨g1, g2, g3, g4⟩ := checkP_zero hE
    rw [if_pos rfl]
    have hee := lineP_len [101, 110, 117, 109, 115] im.1 h.ei
    refine g_skip ?_
    refine g_qt ?_
    refine g_seq ?_
    refine g_region ?_
    refine g_pure (p_fieldAddr rfl) rfl ?_
    refine g_pure (p_load (by rfl) rfl (by first | (apply Has.own; (repeat' (first | exact Take.here | apply Take.there)); done) | exact Has.ro (by assumption)) (by first | rfl | assumption)) rfl ?_
    refine g_ownnil (e := 5) (size := 1) ?_
    refine g_call (Hin := [OwnSl 5 1 none ([] : List UInt8).length 0 (byteCells [])]) (Hr := ?hr2) (R := ?rr2) rfl rfl rfl ?hin2 ?hc2 ?hk2
    case hin2 => repeat' (first | exact Cover.nil | exact Take.here | apply Cover.cons | apply Take.there)
    case hc2 => intro ρ' hρ hR; exact line_ok (hk.mono hρ) none 0 [] [101, 110, 117, 109, 115] ea ec im.1 (h.es.mono hρ) h.ei (by simp; omega)
    rintro _ _ ⟨a22, c22, rfl, rfl⟩
    refine g_pure (p_assign rfl) rfl ?_
    refine g_nil ?_
    refine g_qt ?_
    refine g_seq ?_
    refine g_seq ?_
    refine g_region ?_
    refine g_pure (p_fieldAddr rfl) rfl ?_
    refine g_pure (p_load (by rfl) rfl (by first | (apply Has.own; (repeat' (first | exact Take.here | apply Take.there)); done) | exact Has.ro (by assumption)) (by first | rfl | assumption)) rfl ?_
    refine g_pure (p_len (by rfl) rfl) rfl ?_
    refine g_pure (p_move rfl) rfl ?_
    refine g_nil ?_
    refine g_qt ?_
    refine g_block ?_
    rw [List.nil_append]
    have hCe : lineP [101, 110, 117, 109, 115] im.1 = lineP [101, 110, 117, 109, 115] im.1 ++ ((im.2.take 0).map rtT).flatten := by simp
    have hCl : (lineP [101, 110, 117, 109, 115] im.1 ++ ((im.2.take 0).map rtT).flatten).length ≤ 1000 + 0 * 5000000 := by rw [← hCe]; simp only [List.length_cons, List.length_nil] at hee; omega
    rw [hCe]
    refine g_loop (fun q : Nat × Option Addr × Nat => [(5, .slice q.2.1 (lineP [101, 110, 117, 109, 115] im.1 ++ ((im.2.take q.1).map rtT).flatten).length q.2.2), (24, .slice ra im.2.length rc), (25, .int .i64 im.2.length), (26, .int .i64 q.1)])
      (fun q => [OwnSl 5 1 q.2.1 (lineP [101, 110, 117, 109, 115] im.1 ++ ((im.2.take q.1).map rtT).flatten).length q.2.2 (byteCells (lineP [101, 110, 117, 109, 115] im.1 ++ ((im.2.take q.1).map rtT).flatten))])
      (fun q => q.1 ≤ im.2.length ∧ (lineP [101, 110, 117, 109, 115] im.1 ++ ((im.2.take q.1).map rtT).flatten).length ≤ 1000 + q.1 * 5000000) (fun q => im.2.length - q.1) (0, a22, c22) ⟨Nat.zero_le _, hCl⟩ (by (repeat (first | exact trivial | refine ⟨by rfl, ?_⟩)); done) (by repeat' (first | exact Cover.nil | exact Take.here | apply Cover.cons | apply Take.there)) ?_
    rintro ⟨k, oa, oc⟩ ⟨hk1, hk2⟩
    dsimp only at hk1 hk2 ⊢
    refine g_seq ?_
    refine g_region ?_
    refine g_pure (p_lss rfl rfl) rfl ?_
    refine g_nil ?_
    refine g_qt ?_
    refine g_seq ?_
    refine g_ifd rfl (fun q => ?_) (fun q => ?_)
    · have hkl : k < im.2.length := by omega
      have hst := flat_step rtT im.2 hkl
      obtain ⟨b, off, cs, T, fz, r1, r2, r3⟩ := h.rs (by omega)
      obtain ⟨row, q1, q2, q3⟩ := r3 k hkl
      have hok := h.ok im.2[k] (List.getElem_mem hkl)
      have hgd := g4 k hkl
      have hfin : lineP [101, 110, 117, 109, 115] im.1 ++ ((im.2.take (k + 1)).map rtT).flatten = (lineP [101, 110, 117, 109, 115] im.1 ++ ((im.2.take k).map rtT).flatten) ++ rtT im.2[k] := by rw [hst, List.append_assoc]
      generalize im.2[k] = x0 at q1 hok hgd hst hfin
      obtain ⟨ia, ic, oa', oc', na, nc, ca, cc, e0, hi, ho, hn, hc⟩ := q1
      subst e0
      have hil := hgd.il
      have hol := hgd.ol
      have hzl := hgd.zl
      have hcl := hgd.cl
      have htl : x0.1.length ≤ 40 := by
        have := hgd.tl
        unfold titleP at this
        simp only [Bool.and_eq_true, decide_eq_true_eq] at this
        exact this.2.1
      obtain ⟨bc, oc2, cs2, T2, fz2, hcr⟩ := RSl.row encIns_len hc
      generalize lineP [101, 110, 117, 109, 115] im.1 ++ ((im.2.take k).map rtT).flatten = d at hk2 hfin ⊢
      obtain ⟨d1, e1⟩ : ∃ d1, d ++ lineP ([114, 111, 117, 116, 105, 110, 101, 32] ++ x0.1) [] = d1 := ⟨_, rfl⟩
      obtain ⟨d2, e2⟩ : ∃ d2, d1 ++ lineP [105, 110] x0.2.1 = d2 := ⟨_, rfl⟩
      obtain ⟨d3, e3⟩ : ∃ d3, d2 ++ lineP [111, 117, 116] x0.2.2.1 = d3 := ⟨_, rfl⟩
      obtain ⟨d4, e4⟩ : ∃ d4, d3 ++ lineP [114, 101, 103, 115] [x0.2.2.2.1] = d4 := ⟨_, rfl⟩
      obtain ⟨d5, e5⟩ : ∃ d5, d4 ++ lineP [105, 110, 105, 116] x0.2.2.2.2.1 = d5 := ⟨_, rfl⟩
      have i1 : d1.length ≤ d.length + 49 := by
        have := lineP_len ([114, 111, 117, 116, 105, 110, 101, 32] ++ x0.1) [] (fun x hx => absurd hx List.not_mem_nil)
        rw [← e1, List.length_append]; simp only [List.length_append, List.length_cons, List.length_nil] at this; omega
      have i2 : d2.length ≤ d1.length + 1500 := by
        have := lineP_len [105, 110] x0.2.1 hok.ii
        rw [← e2, List.length_append]; simp only [List.length_cons, List.length_nil] at this; omega
      have i3 : d3.length ≤ d2.length + 1500 := by
        have := lineP_len [111, 117, 116] x0.2.2.1 hok.oi
        rw [← e3, List.length_append]; simp only [List.length_cons, List.length_nil] at this; omega
      have i4 : d4.length ≤ d3.length + 100 := by
        have := lineP_len [114, 101, 103, 115] [x0.2.2.2.1] (fun x hx => by rw [List.mem_singleton.1 hx]; exact hok.ri)
        rw [← e4, List.length_append]; simp only [List.length_cons, List.length_nil] at this; omega
      have i5 : d5.length ≤ d4.length + 400000 := by
        have := lineP_len [105, 110, 105, 116] x0.2.2.2.2.1 hok.zi
        rw [← e5, List.length_append]; simp only [List.length_cons, List.length_nil] at this; omega
      have hs0 : (strB x0.1).size = x0.1.length := rfl
      refine g_skip ?_
      refine g_qt ?_
      refine g_seq ?_
      refine g_block ?_
      refine g_seq ?_
      refine g_region ?_
      refine g_pure (p_indexAddr rfl rfl (by omega) (fun _ => r1)) rfl ?_
      refine g_pure (p_loadN (by rfl) rfl (Has.ro r2) (by rw [Int.toNat_natCast]; exact q2)) rfl ?_
      refine g_eff (e_alloc (by rfl)) rfl (fun _ _ => ?_)
      rintro ⟨b7, rfl, rfl⟩
      first | refine g_eff0 (e_storeO rfl rfl (by rfl) (by rfl) (by rfl) (by repeat' (first | exact Take.here | apply Take.there)) (by rfl)) (fun _ _ => ?_) | refine g_eff0 (e_storeN rfl rfl (by rfl) (by rfl) (by rfl) (by repeat' (first | exact Take.here | apply Take.there)) (by simp)) (fun _ _ => ?_)
      rintro rfl
      refine g_nil ?_
      refine g_qt ?_
      refine g_seq ?_
      refine g_region ?_
      refine g_pure (p_move rfl) rfl ?_
      refine g_pure (p_fieldAddr rfl) rfl ?_
      refine g_pure (p_load (by rfl) rfl (by first | (apply Has.own; (repeat' (first | exact Take.here | apply Take.there)); done) | exact Has.ro (by assumption)) (by first | rfl | assumption)) rfl ?_
      refine g_pure (p_adds (r := strB x0.1) (by rfl) rfl rfl (by rw [hs0]; show 8 + x0.1.length ≤ _; omega)) rfl ?_
      rw [show (⟨#[114, 111, 117, 116, 105, 110, 101, 32]⟩ : ByteArray) ++ strB x0.1 = strB ([114, 111, 117, 116, 105, 110, 101, 32] ++ x0.1) from (strB_app [114, 111, 117, 116, 105, 110, 101, 32] x0.1).symm]
      refine g_call (Hin := ?hi3) (Hr := ?hr3) (R := ?rr3) rfl rfl rfl ?hin3 ?hc3 ?hk3
      case hc3 => intro ρ' hρ hR; exact line_ok (hk.mono hρ) _ _ d ([114, 111, 117, 116, 105, 110, 101, 32] ++ x0.1) none 0 [] rsl_nil (fun x hx => absurd hx List.not_mem_nil) (by simp; omega)
      case hin3 => repeat' (first | exact Cover.nil | exact Take.here | apply Cover.cons | apply Take.there)
      rintro _ _ ⟨a34, c34, rfl, rfl⟩
      rw [e1]
      refine g_pure (p_assign rfl) rfl ?_
      refine g_nil ?_
      refine g_qt ?_
      refine g_seq ?_
      refine g_region ?_
      refine g_pure (p_move rfl) rfl ?_
      refine g_pure (p_fieldAddr rfl) rfl ?_
      refine g_pure (p_load (by rfl) rfl (by first | (apply Has.own; (repeat' (first | exact Take.here | apply Take.there)); done) | exact Has.ro (by assumption)) (by first | rfl | assumption)) rfl ?_
      refine g_call (Hin := ?hi4) (Hr := ?hr4) (R := ?rr4) rfl rfl rfl ?hin4 ?hc4 ?hk4
      case hc4 => intro ρ' hρ hR; exact line_ok (hk.mono hρ) _ _ d1 [105, 110] ia ic x0.2.1 (hi.mono hρ) hok.ii (by simp; omega)
      case hin4 => repeat' (first | exact Cover.nil | exact Take.here | apply Cover.cons | apply Take.there)
      rintro _ _ ⟨a38, c38, rfl, rfl⟩
      rw [e2]
      refine g_pure (p_assign rfl) rfl ?_
      refine g_nil ?_
      refine g_qt ?_
      refine g_seq ?_
      refine g_region ?_
      refine g_pure (p_move rfl) rfl ?_
      refine g_pure (p_fieldAddr rfl) rfl ?_
      refine g_pure (p_load (by rfl) rfl (by first | (apply Has.own; (repeat' (first | exact Take.here | apply Take.there)); done) | exact Has.ro (by assumption)) (by first | rfl | assumption)) rfl ?_
      refine g_call (Hin := ?hi5) (Hr := ?hr5) (R := ?rr5) rfl rfl rfl ?hin5 ?hc5 ?hk5
      case hc5 => intro ρ' hρ hR; exact line_ok (hk.mono hρ) _ _ d2 [111, 117, 116] oa' oc' x0.2.2.1 (ho.mono hρ) hok.oi (by simp; omega)
      case hin5 => repeat' (first | exact Cover.nil | exact Take.here | apply Cover.cons | apply Take.there)
      rintro _ _ ⟨a42, c42, rfl, rfl⟩
      rw [e3]
      refine g_pure (p_assign rfl) rfl ?_
      refine g_nil ?_
      refine g_qt ?_
      refine g_seq ?_
      refine g_region ?_
      refine g_pure (p_move rfl) rfl ?_
      refine g_pure (p_fieldAddr rfl) rfl ?_
      refine g_pure (p_load (by rfl) rfl (by first | (apply Has.own; (repeat' (first | exact Take.here | apply Take.there)); done) | exact Has.ro (by assumption)) (by first | rfl | assumption)) rfl ?_
      refine g_eff (e_bs (xs := [.tmp 45]) rfl rfl rfl (by rfl) (by rfl) rfl (by rfl)) rfl (fun _ _ => ?_)
      rintro ⟨b46, rfl, rfl⟩
      refine g_call (Hin := [OwnSl 5 1 a42 d3.length c42 (byteCells d3)]) (Hr := ?hr6) (R := ?rr6) rfl rfl rfl ?hin6 ?hc6 ?hk6
      case hin6 => repeat' (first | exact Cover.nil | exact Take.here | apply Cover.cons | apply Take.there)
      case hc6 => intro ρ' hρ hR; exact line_ok (hk.mono hρ) _ _ d3 [114, 101, 103, 115] (some ⟨b46, 0, none⟩) 1 [x0.2.2.2.1] (RSl.of_blk (T := 3) (cs := [.int .i64 x0.2.2.2.1]) (k := 1) (size := 1) (Take.ro (A := Blk b46 (.cells [.int .i64 x0.2.2.2.1].toArray 3 (0, 0))) (by repeat' (first | exact Take.here | apply Take.there)) hR).blk (Nat.le_refl 1)) (fun x hx => by rw [List.mem_singleton.1 hx]; exact hok.ri) (by simp; omega)
      rintro _ _ ⟨a47, c47, rfl, rfl⟩
      rw [e4]
      refine g_pure (p_assign rfl) rfl ?_
      refine g_nil ?_
      refine g_qt ?_
      refine g_seq ?_
      refine g_region ?_
      refine g_pure (p_move rfl) rfl ?_
      refine g_pure (p_fieldAddr rfl) rfl ?_
      refine g_pure (p_load (by rfl) rfl (by first | (apply Has.own; (repeat' (first | exact Take.here | apply Take.there)); done) | exact Has.ro (by assumption)) (by first | rfl | assumption)) rfl ?_
      refine g_call (Hin := ?hi7) (Hr := ?hr7) (R := ?rr7) rfl rfl rfl ?hin7 ?hc7 ?hk7
      case hc7 => intro ρ' hρ hR; exact line_ok (hk.mono hρ) _ _ d4 [105, 110, 105, 116] na nc x0.2.2.2.2.1 (hn.mono hρ) hok.zi (by simp; omega)
      case hin7 => repeat' (first | exact Cover.nil | exact Take.here | apply Cover.cons | apply Take.there)
      rintro _ _ ⟨a51, c51, rfl, rfl⟩
      rw [e5]
      refine g_pure (p_assign rfl) rfl ?_
      refine g_nil ?_
      refine g_qt ?_
      refine g_seq ?_
      refine g_seq ?_
      refine g_region ?_
      refine g_pure (p_fieldAddr rfl) rfl ?_
      refine g_pure (p_load (by rfl) rfl (by first | (apply Has.own; (repeat' (first | exact Take.here | apply Take.there)); done) | exact Has.ro (by assumption)) (by first | rfl | assumption)) rfl ?_
      refine g_pure (p_len (by rfl) rfl) rfl ?_
      refine g_pure (p_move rfl) rfl ?_
      refine g_nil ?_
      refine g_qt ?_
      refine g_block ?_
      have hCi : d5 = d5 ++ ((x0.2.2.2.2.2.take 0).map insT).flatten := by simp
      have hL : d5.length ≤ d.length + 410000 := by omega
      rw [hCi]
      refine g_loop (fun q : Nat × Option Addr × Nat => [(5, .slice q.2.1 (d5 ++ ((x0.2.2.2.2.2.take q.1).map insT).flatten).length q.2.2), (24, .slice ra im.2.length rc), (25, .int .i64 im.2.length), (26, .int .i64 k), (53, .slice ca x0.2.2.2.2.2.length cc), (54, .int .i64 x0.2.2.2.2.2.length), (55, .int .i64 q.1)])
        (fun q => [OwnSl 5 1 q.2.1 (d5 ++ ((x0.2.2.2.2.2.take q.1).map insT).flatten).length q.2.2 (byteCells (d5 ++ ((x0.2.2.2.2.2.take q.1).map insT).flatten))])
        (fun q => q.1 ≤ x0.2.2.2.2.2.length ∧ (d5 ++ ((x0.2.2.2.2.2.take q.1).map insT).flatten).length ≤ d5.length + q.1 * 94) (fun q => x0.2.2.2.2.2.length - q.1) (0, a51, c51) ⟨Nat.zero_le _, by rw [← hCi]; omega⟩ (by (repeat (first | exact trivial | refine ⟨by rfl, ?_⟩)); done) (by repeat' (first | exact Cover.nil | exact Take.here | apply Cover.cons | apply Take.there)) ?_
      rintro ⟨j, ja, jc⟩ ⟨hj1, hj2⟩
      dsimp only at hj1 hj2 ⊢
      refine g_seq ?_
      refine g_region ?_
      refine g_pure (p_lss rfl rfl) rfl ?_
      refine g_nil ?_
      refine g_qt ?_
      refine g_seq ?_
      refine g_ifd rfl (fun qj => ?_) (fun qj => ?_)
      · have hjl : j < x0.2.2.2.2.2.length := by omega
        have hst2 := flat_step insT x0.2.2.2.2.2 hjl
        have hfin2 : d5 ++ ((x0.2.2.2.2.2.take (j + 1)).map insT).flatten = (d5 ++ ((x0.2.2.2.2.2.take j).map insT).flatten) ++ insT x0.2.2.2.2.2[j] := by rw [hst2, List.append_assoc]
        obtain ⟨c1, c2, c3⟩ := hcr (by omega)
        have c4 := (c3 j hjl).1 (by decide)
        have hii := hok.ci x0.2.2.2.2.2[j] (List.getElem_mem hjl)
        generalize x0.2.2.2.2.2[j] = ii at c4 hst2 hfin2 hii
        have hil2 := insT_len hii.2
        generalize d5 ++ ((x0.2.2.2.2.2.take j).map insT).flatten = f at hj2 hfin2 ⊢
        obtain ⟨k0, k1, k2, k3, hks, hrow⟩ := rowC_ex ii.1
        have hkat : ∀ k kd : Nat, (opRow ii.1).2.1[k]? = some kd → [Value.string (strB (opRow ii.1).1), .int .i64 k0, .int .i64 k1, .int .i64 k2, .int .i64 k3, .int .i64 (opRow ii.1).2.2][0 + 1 + (k : Int).toNat * 1]? = some (.int .i64 kd) := fun k kd h => by
          rw [← hrow, show 0 + 1 + (k : Int).toNat * 1 = 1 + k by omega]; exact row_kind h
        refine g_skip ?_
        refine g_qt ?_
        refine g_seq ?_
        refine g_block ?_
        refine g_seq ?_
        refine g_region ?_
        refine g_pure (p_indexAddr rfl rfl (by omega) (fun _ => c1)) rfl ?_
        refine g_pure (p_loadN (by rfl) rfl (Has.ro c2) (by rw [Int.toNat_natCast]; exact c4)) rfl ?_
        refine g_eff (e_alloc (by rfl)) rfl (fun _ _ => ?_)
        rintro ⟨b9, rfl, rfl⟩
        first | refine g_eff0 (e_storeO rfl rfl (by rfl) (by rfl) (by rfl) (by repeat' (first | exact Take.here | apply Take.there)) (by rfl)) (fun _ _ => ?_) | refine g_eff0 (e_storeN rfl rfl (by rfl) (by rfl) (by rfl) (by repeat' (first | exact Take.here | apply Take.there)) (by simp)) (fun _ _ => ?_)
        rintro rfl
        refine g_nil ?_
        refine g_qt ?_
        refine g_seq ?_
        refine g_region ?_
        refine g_pure (p_fieldAddr rfl) rfl ?_
        refine g_pure (p_load (by rfl) rfl (by first | (apply Has.own; (repeat' (first | exact Take.here | apply Take.there)); done) | exact Has.ro (by assumption)) (by first | rfl | assumption)) rfl ?_
        refine g_call (Hin := []) (Hr := ?hr8) (R := ?rr8) rfl rfl rfl ?hin8 ?hc8 ?hk8
        case hin8 => repeat' (first | exact Cover.nil | exact Take.here | apply Cover.cons | apply Take.there)
        case hc8 => intro ρ' hρ hR; exact known_at (hO.mono hρ) hrow
        rintro _ _ ⟨rfl, rfl⟩
        refine g_pure (p_move rfl) rfl ?_
        refine g_pure (p_extract rfl rfl) rfl ?_
        refine g_pure (p_extract rfl rfl) rfl ?_
        refine g_eff (e_alloc (by rfl)) rfl (fun _ _ => ?_)
        rintro ⟨b10, rfl, rfl⟩
        first | refine g_eff0 (e_storeO rfl rfl (by rfl) (by rfl) (by rfl) (by repeat' (first | exact Take.here | apply Take.there)) (by rfl)) (fun _ _ => ?_) | refine g_eff0 (e_storeN rfl rfl (by rfl) (by rfl) (by rfl) (by repeat' (first | exact Take.here | apply Take.there)) (by simp)) (fun _ _ => ?_)
        rintro rfl
        refine g_pure (p_assign rfl) rfl ?_
        refine g_nil ?_
        refine g_qt ?_
        refine g_seq ?_
        refine g_region ?_
        refine g_pure (p_assign rfl) rfl ?_
        refine g_nil ?_
        refine g_qt ?_
        refine g_seq ?_
        refine g_seq ?_
        refine g_region ?_
        first | refine g_pure (p_loadO (by rfl) rfl (by first | (apply Has.own; (repeat' (first | exact Take.here | apply Take.there)); done) | exact Has.ro (by assumption)) (by rfl)) rfl ?_ | refine g_pure (p_loadN (by rfl) rfl (by first | (apply Has.own; (repeat' (first | exact Take.here | apply Take.there)); done) | exact Has.ro (by assumption)) (by first | rfl | assumption)) rfl ?_
        refine g_call (Hin := []) (Hr := ?hr9) (R := ?rr9) rfl rfl rfl ?hin9 ?hc9 ?hk9
        case hin9 => repeat' (first | exact Cover.nil | exact Take.here | apply Cover.cons | apply Take.there)
        case hc9 => intro ρ' hρ hR; exact fields_ok ii
        rintro _ _ ⟨rfl, rfl⟩
        refine g_pure (p_move rfl) rfl ?_
        refine g_nil ?_
        refine g_qt ?_
        refine g_block ?_
        have hu0 : ([] : List Int) = usedT ii 0 := rfl
        refine g_ownnil (e := 3) (size := 1) ?_
        refine g_loop (fun q : Nat × Option Addr × Nat => [(5, .slice ja f.length jc), (10, .pointer (some ⟨b10, 0, none⟩)), (12, .slice q.2.1 (usedT ii q.1).length q.2.2), (24, .slice ra im.2.length rc), (25, .int .i64 im.2.length), (26, .int .i64 k), (53, .slice ca x0.2.2.2.2.2.length cc), (54, .int .i64 x0.2.2.2.2.2.length), (55, .int .i64 j), (66, .agg ((fieldsV ii).map encI).toArray), (67, .int .i64 q.1)])
          (fun q => [OwnSl 5 1 ja f.length jc (byteCells f), OwnSl 3 1 q.2.1 (usedT ii q.1).length q.2.2 ((usedT ii q.1).map encI), Blk b10 (.cells [.string (strB (opRow ii.1).1), .int .i64 k0, .int .i64 k1, .int .i64 k2, .int .i64 k3, .int .i64 (opRow ii.1).2.2].toArray 62 (0, 0))])
          (fun q => q.1 ≤ 4) (fun q => 4 - q.1) (0, none, 0) (Nat.zero_le _) (by (repeat (first | exact trivial | refine ⟨by rfl, ?_⟩)); done) (by repeat' (first | exact Cover.nil | exact Take.here | apply Cover.cons | apply Take.there)) ?_
        rintro ⟨n, ua, uc⟩ hn1
        dsimp only at hn1 ⊢
        have hul := usedT_len ii n hn1
        refine g_seq ?_
        refine g_region ?_
        refine g_pure (p_lss rfl rfl) rfl ?_
        refine g_nil ?_
        refine g_qt ?_
        refine g_seq ?_
        refine g_ifd rfl (fun qn => ?_) (fun qn => ?_)
        · have hnl : n < 4 := by omega
          obtain ⟨kd, x, hp, p1, p2, hkd⟩ := pairs_at ii hnl
          have hus := usedT_step ii hnl hp
          have hx : ((fieldsV ii).map encI)[(n : Int).toNat]? = some (.int .i64 x) := by rw [Int.toNat_natCast, List.getElem?_map, p2]; rfl
          refine g_skip ?_
          refine g_qt ?_
          refine g_seq ?_
          refine g_block ?_
          refine g_seq ?_
          refine g_region ?_
          refine g_pure (p_move rfl) rfl ?_
          refine g_pure (p_indexA (he := ty3) (by rfl) (by rfl) rfl rfl rfl (by omega) hx) rfl ?_
          refine g_pure (p_assign rfl) rfl ?_
          refine g_pure (p_assign rfl) rfl ?_
          refine g_nil ?_
          refine g_qt ?_
          refine g_seq ?_
          refine g_region ?_
          refine g_pure (p_move rfl) rfl ?_
          refine g_pure (p_fieldAddr rfl) rfl ?_
          refine g_pure (p_indexAddrA (he := ty3) (by rfl) rfl rfl (by omega)) rfl ?_
          refine g_pure (p_load (by rfl) rfl (Has.own (by repeat' (first | exact Take.here | apply Take.there))) (hkat n kd p1)) rfl ?_
          refine g_pure (p_neq rfl rfl) rfl ?_
          refine g_nil ?_
          refine g_qt ?_
          refine g_ifnd rfl (fun h0 => ?_) (fun h0 => ?_)
          · rw [if_neg (by omega)] at hus
            refine g_region ?_
            refine g_pure (p_move rfl) rfl ?_
            refine g_pure (p_move rfl) rfl ?_
            refine g_eff (e_bs (xs := [.tmp 77]) rfl rfl rfl (by rfl) (by rfl) rfl (by rfl)) rfl (fun _ _ => ?_)
            rintro ⟨b78, rfl, rfl⟩
            refine g_eff (e_appendO (by rfl) (by rfl) rfl rfl (by first | (apply Has.own; (repeat' (first | exact Take.here | apply Take.there)); done) | exact Has.ro (by assumption)) (by rfl) (by rfl) (by repeat' (first | exact Take.here | apply Take.there)) (by omega) (by first | omega | (dsimp only; omega) | (simp <;> omega)) (by omega)) rfl (fun _ _ => ?_)
            rintro ⟨a79, c79, rfl, rfl⟩
            refine g_pure (p_assign rfl) rfl ?_
            refine g_nil ?_
            refine g_qb ?_
            refine g_qt ?_
            refine g_region ?_
            first | refine g_pure (p_addi rfl rfl (by omega)) rfl ?_ | refine g_pure (p_add rfl rfl) rfl ?_
            refine g_pure (p_move rfl) rfl ?_
            refine g_nil ?_
            refine g_qn ?_
            rw [show (usedT ii n).map encI ++ [Value.int IntKind.i64 x] = (usedT ii (n + 1)).map encI by rw [hus, List.map_append]; rfl, show (usedT ii n).length + 1 = (usedT ii (n + 1)).length by rw [hus, List.length_append]; rfl]
            exact g_next (n + 1, a79, c79) (by (repeat (first | exact trivial | refine ⟨by rfl, ?_⟩)); done) (by repeat' (first | exact Cover.nil | exact Take.here | apply Cover.cons | apply Take.there)) hnl (by dsimp only; omega)
          · rw [if_pos (by omega)] at hus
            rw [← hus]
            refine g_skip ?_
            refine g_qb ?_
            refine g_qt ?_
            refine g_region ?_
            first | refine g_pure (p_addi rfl rfl (by omega)) rfl ?_ | refine g_pure (p_add rfl rfl) rfl ?_
            refine g_pure (p_move rfl) rfl ?_
            refine g_nil ?_
            refine g_qn ?_
            exact g_next (n + 1, ua, uc) (by (repeat (first | exact trivial | refine ⟨by rfl, ?_⟩)); done) (by repeat' (first | exact Cover.nil | exact Take.here | apply Cover.cons | apply Take.there)) hnl (by dsimp only; omega)
        · have hne : n = 4 := by omega
          subst hne
          rw [usedT_all] at hul ⊢
          have hi64 : ∀ x ∈ usedP ii, I64 x := fun x hx => by
            rcases used_fields hx with rfl | rfl | rfl | rfl
            · exact hii.2.1
            · exact hii.2.2.1
            · exact hii.2.2.2.1
            · exact hii.2.2.2.2
          have hw5 := word_len ii.1
          refine g_exit ?_
          refine g_qt_exit ?_
          refine g_qn_exit ?_
          refine g_qb_exit ?_
          refine g_qt ?_
          refine g_region ?_
          refine g_pure (p_move rfl) rfl ?_
          refine g_pure (p_fieldAddr rfl) rfl ?_
          refine g_pure (p_load (by rfl) rfl (by first | (apply Has.own; (repeat' (first | exact Take.here | apply Take.there)); done) | exact Has.ro (by assumption)) (by first | rfl | assumption)) rfl ?_
          refine g_pure (p_move rfl) rfl ?_
          refine g_call (Hin := [OwnSl 5 1 ja f.length jc (byteCells f)]) (Hr := ?hr10) (R := ?rr10) rfl rfl rfl ?hin10 ?hc10 ?hk10
          case hin10 => repeat' (first | exact Cover.nil | exact Take.here | apply Cover.cons | apply Take.there)
          case hc10 => intro ρ' hρ hR; exact line_ok (hk.mono hρ) _ _ f (opRow ii.1).1 ua uc (usedP ii) (RSl.of_own (Take.ro (A := OwnSl 3 1 ua (usedP ii).length uc ((usedP ii).map encI)) (by repeat' (first | exact Take.here | apply Take.there)) hR)) hi64 (by omega)
          rintro _ _ ⟨a85, c85, rfl, rfl⟩
          rw [show lineP (opRow ii.1).1 (usedP ii) = insT ii from rfl, ← hfin2]
          refine g_pure (p_assign rfl) rfl ?_
          refine g_nil ?_
          refine g_qb ?_
          refine g_qt ?_
          refine g_region ?_
          first | refine g_pure (p_addi rfl rfl (by omega)) rfl ?_ | refine g_pure (p_add rfl rfl) rfl ?_
          refine g_pure (p_move rfl) rfl ?_
          refine g_nil ?_
          refine g_qn ?_
          exact g_next (j + 1, a85, c85) (by (repeat (first | exact trivial | refine ⟨by rfl, ?_⟩)); done) (by repeat' (first | exact Cover.nil | exact Take.here | apply Cover.cons | apply Take.there)) ⟨hjl, by dsimp only; rw [hfin2, List.length_append]; omega⟩ (by dsimp only; omega)
      · have hje : j = x0.2.2.2.2.2.length := by omega
        subst hje
        rw [List.take_length] at hj2 ⊢
        generalize hff : d5 ++ (x0.2.2.2.2.2.map insT).flatten = f at hj2 ⊢
        refine g_exit ?_
        refine g_qt_exit ?_
        refine g_qn_exit ?_
        refine g_qb_exit ?_
        refine g_qt ?_
        refine g_region ?_
        refine g_pure (p_move rfl) rfl ?_
        refine g_call (Hin := ?hi11) (Hr := ?hr11) (R := ?rr11) rfl rfl rfl ?hin11 ?hc11 ?hk11
        case hc11 => intro ρ' hρ hR; exact line_ok (hk.mono hρ) _ _ f [101, 110, 100] none 0 [] rsl_nil (fun x hx => absurd hx List.not_mem_nil) (by simp; omega)
        case hin11 => repeat' (first | exact Cover.nil | exact Take.here | apply Cover.cons | apply Take.there)
        rintro _ _ ⟨a88, c88, rfl, rfl⟩
        have hend : f ++ lineP [101, 110, 100] [] = d ++ rtT x0 := by
          rw [← hff, ← e5, ← e4, ← e3, ← e2, ← e1, rtT_eq]; unfold headT; simp only [List.append_assoc]
        have hlen3 : (f ++ lineP [101, 110, 100] []).length ≤ f.length + 4 := by
          have := lineP_len [101, 110, 100] [] (fun x hx => absurd hx List.not_mem_nil)
          rw [List.length_append]; simp only [List.length_cons, List.length_nil] at this; omega
        rw [hend] at hlen3 ⊢
        rw [← hfin] at hlen3 ⊢
        refine g_pure (p_assign rfl) rfl ?_
        refine g_nil ?_
        refine g_qb ?_
        refine g_qt ?_
        refine g_region ?_
        first | refine g_pure (p_addi rfl rfl (by omega)) rfl ?_ | refine g_pure (p_add rfl rfl) rfl ?_
        refine g_pure (p_move rfl) rfl ?_
        refine g_nil ?_
        refine g_qn ?_
        exact g_next (k + 1, a88, c88) (by (repeat (first | exact trivial | refine ⟨by rfl, ?_⟩)); done) (by repeat' (first | exact Cover.nil | exact Take.here | apply Cover.cons | apply Take.there)) ⟨hkl, by dsimp only; omega⟩ (by dsimp only; omega)
    · have hke : k = im.2.length := by omega
      subst hke
      rw [List.take_length] at hk2 ⊢
      rw [show lineP [101, 110, 117, 109, 115] im.1 ++ (im.2.map rtT).flatten = textP im from rfl] at hk2 ⊢
      have h0 : 0 < (textP im).length := by unfold textP lineP; simp
      refine g_weak (A := OwnSl 5 1 oa (textP im).length oc (byteCells (textP im))) (B := OwnB 5 oa (textP im).length oc (byteCells (textP im))) (by repeat' (first | exact Take.here | apply Take.there)) (own_bytes h0) ?_
      refine g_exit ?_
      refine g_qt_exit ?_
      refine g_qn_exit ?_
      refine g_qb_exit ?_
      refine g_qt ?_
      refine g_seq ?_
      refine g_region ?_
      refine g_pure (p_move rfl) rfl ?_
      refine g_pure (p_btsB (by rfl) (by rfl) (l := textP im) rfl (by repeat' (first | exact Take.here | apply Take.there))) rfl ?_
      refine g_pure (p_assign rfl) rfl ?_
      refine g_pure (p_assign rfl) rfl ?_
      refine g_nil ?_
      refine g_qt ?_
      refine g_ret ?_
      exact g_post (rs := [.tmp 2, .tmp 3]) rfl (.tmp rfl (.tmp rfl .nil)) ⟨rfl, rfl⟩ (by repeat' (first | exact Cover.nil | exact Take.here | apply Cover.cons | apply Take.there))
end Go.Proofs.YtcnfcoojmbjdlaaGreatDoor
/- Chapter 26: the longest way through an image. Conditions: what the table of operations holds (OpsK). -/
namespace Go.Z.Asm
set_option maxRecDepth 8000
set_option linter.unusedVariables false
set_option linter.unusedSimpArgs false
set_option linter.unusedSectionVars false
open Go Go.Z Go.Lib
theorem longL_len (before : List Int) : ∀ (l : List Ins) (j : Nat), (longL before j l).length = l.length + 1
  | [], j => rfl
  | i :: l, j => by
    have := longL_len before l (j + 1)
    show (min _ (farN + 1) :: longL before (j + 1) l).length = _
    rw [List.length_cons, this]; rfl
def nextL (before L : List Int) (j : Nat) (i : Ins) : Int := if i.1 = 7 then L.getD (i.2.2.1 - j - 1).toNat 0 else if i.1 = 8 then max (L.headD 0) (L.getD (i.2.2.1 - j - 1).toNat 0) else if i.1 = 9 then L.headD 0 + before.getD i.2.1.toNat 0 else L.headD 0
theorem longL_cons (before : List Int) (j : Nat) (i : Ins) (l : List Ins) : longL before j (i :: l) = min (nextL before (longL before (j + 1) l) j i + 1) (farN + 1) :: longL before (j + 1) l := rfl
theorem getD_in {L : List Int} {hi : Int} (h : ∀ x ∈ L, 0 ≤ x ∧ x ≤ hi) (h0 : 0 ≤ hi) (n : Nat) : 0 ≤ L.getD n 0 ∧ L.getD n 0 ≤ hi := by
  rw [List.getD_eq_getElem?_getD]
  cases e : L[n]? with
  | none => exact ⟨Int.le_refl 0, h0⟩
  | some x => exact h x (List.mem_of_getElem? e)
theorem headD_in {L : List Int} {hi : Int} (h : ∀ x ∈ L, 0 ≤ x ∧ x ≤ hi) (h0 : 0 ≤ hi) : 0 ≤ L.headD 0 ∧ L.headD 0 ≤ hi := by
  cases L with
  | nil => exact ⟨Int.le_refl 0, h0⟩
  | cons x l => exact h x List.mem_cons_self
theorem nextL_in {before L : List Int} (hb : ∀ x ∈ before, 0 ≤ x ∧ x ≤ farN + 1) (hL : ∀ x ∈ L, 0 ≤ x ∧ x ≤ farN + 1) (j : Nat) (i : Ins) : 0 ≤ nextL before L j i ∧ nextL before L j i ≤ 2 * (farN + 1) := by
  have h0 : (0 : Int) ≤ farN + 1 := by decide
  have h1 := headD_in hL h0
  have h2 := getD_in hL h0 (i.2.2.1 - j - 1).toNat
  have h3 := getD_in hb h0 i.2.1.toNat
  unfold nextL
  split
  · omega
  · split
    · omega
    · split <;> omega
theorem longL_in {before : List Int} (hb : ∀ x ∈ before, 0 ≤ x ∧ x ≤ farN + 1) : ∀ (l : List Ins) (j : Nat), ∀ x ∈ longL before j l, 0 ≤ x ∧ x ≤ farN + 1
  | [], j, x, h => by
    have h' : x ∈ [(0 : Int)] := h
    rw [List.mem_singleton.1 h']; exact ⟨Int.le_refl 0, by decide⟩
  | i :: l, j, x, h => by
    rw [longL_cons] at h
    have ih := longL_in hb l (j + 1)
    rcases List.mem_cons.1 h with h | h
    · have := nextL_in hb ih j i
      rw [h]; omega
    · exact ih x h
theorem form_target {len at' : Int} {i : Ins} (h : formP len at' i = true) (h7 : i.1 = 7 ∨ i.1 = 8) : at' < i.2.2.1 ∧ i.2.2.1 ≤ len := by
  obtain ⟨op, A, B, C, D⟩ := i
  dsimp only at h7
  rcases h7 with rfl | rfl
  · simp [formP, opRow, knownP, opT, fieldsV, formT] at h; dsimp only; omega
  · simp [formP, opRow, knownP, opT, fieldsV, formT] at h; dsimp only; omega
theorem range_call {rts : List Rt} {k : Nat} {i : Ins} (h : rangesP rts k i = true) (h9 : i.1 = 9) : 0 ≤ i.2.1 ∧ i.2.1 < k := by
  obtain ⟨op, A, B, C, D⟩ := i
  dsimp only at h9
  subst h9
  simp [rangesP, opRow, knownP, opT, fieldsV, rangeT] at h; dsimp only; omega
theorem worstL_step (rts : List Rt) {k : Nat} (hk : k < rts.length) : worstL (rts.take (k + 1)) = worstL (rts.take k) ++ [(longL (worstL (rts.take k)) 0 rts[k].2.2.2.2.2).headD 0] := by
  unfold worstL
  rw [List.take_add_one, List.getElem?_eq_getElem hk, Option.toList_some, List.foldl_append]; rfl
theorem worstL_len (rts : List Rt) : ∀ k, k ≤ rts.length → (worstL (rts.take k)).length = k
  | 0, _ => rfl
  | k + 1, h => by rw [worstL_step rts h, List.length_append, worstL_len rts k (by omega)]; rfl
theorem worstL_in (rts : List Rt) : ∀ k, k ≤ rts.length → ∀ x ∈ worstL (rts.take k), 0 ≤ x ∧ x ≤ farN + 1
  | 0, _, x, h => by
    have h' : x ∈ ([] : List Int) := h
    cases h'
  | k + 1, h, x, hx => by
    rw [worstL_step rts h] at hx
    have ih := worstL_in rts k (by omega)
    rcases List.mem_append.1 hx with hx | hx
    · exact ih x hx
    · rw [List.mem_singleton.1 hx]
      exact headD_in (longL_in ih _ 0) (by decide)
def cellsM (m : Nat) (L : List Int) : List Value := List.replicate m (.int .i64 0) ++ L.map encI
theorem cellsM_at {m i : Nat} {L : List Int} (h : m ≤ i) (h2 : i - m < L.length) : (cellsM m L)[i]? = some (.int .i64 (L.getD (i - m) 0)) := by
  unfold cellsM
  rw [List.getElem?_append_right (by rw [List.length_replicate]; exact h), List.length_replicate, List.getElem?_map, List.getElem?_eq_getElem h2, List.getD_eq_getElem?_getD, List.getElem?_eq_getElem h2]; rfl
theorem cellsM_set {m : Nat} {L : List Int} (v : Int) : (cellsM (m + 1) L).set m (.int .i64 v) = cellsM m (v :: L) := by
  unfold cellsM
  rw [List.replicate_succ', List.append_assoc, List.set_append_right _ _ (by rw [List.length_replicate]; exact Nat.le_refl m), List.length_replicate, Nat.sub_self]; rfl
theorem cellsM_len (m : Nat) (L : List Int) : (cellsM m L).length = m + L.length := by simp [cellsM]
end Go.Z.Asm
namespace Go.Proofs.YtcnfcoojmbjdlaaGreatDoor
set_option maxRecDepth 8000
set_option linter.unusedVariables false
set_option linter.unusedSimpArgs false
set_option linter.unusedSectionVars false
open Go Go.Z Go.Z.Asm

theorem longest_ok {ρ : Nat → Obj → Prop} (nm : ByteArray) (ia oa na ca : Option Addr) (il ic ol oc nl nc cc : Nat) (rg : Int) (code : List Ins) (hc : RSl ρ 5 ca code.length (code.flatMap encIns)) (hcl : code.length ≤ 17592186044416)
    (ba : Option Addr) (bc : Nat) (before : List Int) (hb : RSl ρ 1 ba before.length (before.map encI)) (hbI : ∀ x ∈ before, 0 ≤ x ∧ x ≤ farN + 1)
    (hg : ∀ j (hj : j < code.length), (code[j].1 = 7 ∨ code[j].1 = 8 → (j : Int) < code[j].2.2.1 ∧ code[j].2.2.1 ≤ code.length) ∧ (code[j].1 = 9 → 0 ≤ code[j].2.1 ∧ code[j].2.1 < before.length)) :
    Con Tryz.prog ρ 41 #[.agg #[.string nm, .slice ia il ic, .slice oa ol oc, .int .i64 rg, .slice na nl nc, .slice ca code.length cc], .slice ba before.length bc] [] (fun v H => v = .int .i64 ((longL before 0 code).headD 0) ∧ H = []) := by
  have hfar : farN = 1099511627776 := rfl
  obtain ⟨bc', oc2, cs2, T2, fz2, hcr⟩ := RSl.row encIns_len hc
  obtain ⟨_, bb, ob, cb, Tb, fb, hbr⟩ := hb
  refine con_intro Tryz.func41 Tryz.call41 rfl Tryz.ntmps41 rfl (L := [(0, _), (1, _)]) rfl fun w hh => ?_
  refine g_seq ?_
  refine g_region ?_
  refine g_eff (e_box rfl (by rfl)) rfl (fun _ _ => ?_)
  rintro ⟨b2, rfl, rfl⟩
  refine g_pure (p_assign rfl) rfl ?_
  refine g_nil ?_
  refine g_qt ?_
  refine g_seq ?_
  refine g_region ?_
  refine g_pure (p_fieldAddr rfl) rfl ?_
  refine g_pure (p_load (by rfl) rfl (by first | (apply Has.own; (repeat' (first | exact Take.here | apply Take.there)); done) | exact Has.ro (by assumption)) (by first | rfl | assumption)) rfl ?_
  refine g_pure (p_len (by rfl) rfl) rfl ?_
  first | refine g_pure (p_addi rfl rfl (by omega)) rfl ?_ | refine g_pure (p_add rfl rfl) rfl ?_
  refine g_eff (e_make (by rfl) (by rfl) rfl rfl (by omega) (by first | omega | (dsimp only; omega)) (by omega)) rfl (fun _ _ => ?_)
  rintro ⟨b13, rfl, rfl⟩
  refine g_pure (p_assign rfl) rfl ?_
  refine g_nil ?_
  refine g_qt ?_
  refine g_seq ?_
  refine g_seq ?_
  refine g_region ?_
  refine g_pure (p_fieldAddr rfl) rfl ?_
  refine g_pure (p_load (by rfl) rfl (by first | (apply Has.own; (repeat' (first | exact Take.here | apply Take.there)); done) | exact Has.ro (by assumption)) (by first | rfl | assumption)) rfl ?_
  refine g_pure (p_len (by rfl) rfl) rfl ?_
  first | refine g_pure (p_subi rfl rfl (by omega)) rfl ?_ | refine g_pure (p_sub rfl rfl) rfl ?_
  refine g_pure (p_assign rfl) rfl ?_
  refine g_nil ?_
  refine g_qt ?_
  refine g_block ?_
  have hz : List.replicate ((code.length : Int) + 1).toNat (Value.int IntKind.i64 0) = cellsM code.length (longL before code.length (code.drop code.length)) := by
    rw [List.drop_length, show ((code.length : Int) + 1).toNat = code.length + 1 by omega, List.replicate_succ']; rfl
  rw [hz]
  refine g_loop (fun q : Nat × Int => [(1, .slice ba before.length bc), (2, .pointer (some ⟨b2, 0, none⟩)), (5, .slice (some ⟨b13, 0, none⟩) ((code.length : Int) + 1).toNat ((code.length : Int) + 1).toNat), (6, .int .i64 q.2)])
    (fun q => [Blk b2 (.cells [.string nm, .slice ia il ic, .slice oa ol oc, .int .i64 rg, .slice na nl nc, .slice ca code.length cc].toArray 45 (0, 0)), Blk b13 (.cells (cellsM q.1 (longL before q.1 (code.drop q.1))).toArray 3 (0, 0))])
    (fun q => q.1 ≤ code.length ∧ q.2 = (q.1 : Int) - 1) (fun q => q.1) (code.length, (code.length : Int) - 1) ⟨Nat.le_refl _, rfl⟩ (by (repeat (first | exact trivial | refine ⟨by rfl, ?_⟩)); done) (by repeat' (first | exact Cover.nil | exact Take.here | apply Cover.cons | apply Take.there)) ?_
  rintro ⟨m, z⟩ ⟨hm, hz2⟩
  dsimp only at hm hz2 ⊢
  refine g_seq ?_
  refine g_seq ?_
  refine g_region ?_
  refine g_pure (p_move rfl) rfl ?_
  refine g_pure (p_geq rfl rfl) rfl ?_
  refine g_nil ?_
  refine g_qt ?_
  refine g_ifd rfl (fun q => ?_) (fun q => ?_)
  · obtain ⟨j, rfl⟩ : ∃ j, m = j + 1 := ⟨m - 1, by omega⟩
    have hzj : z = (j : Int) := by omega
    subst hzj
    have hjl : j < code.length := by omega
    obtain ⟨c1, c2, c3⟩ := hcr (by omega)
    have c4 := (c3 j hjl).1 (by decide)
    obtain ⟨g1, g2⟩ := hg j hjl
    have hLl := longL_len before (code.drop (j + 1)) (j + 1)
    rw [List.length_drop] at hLl
    have hLi := longL_in hbI (code.drop (j + 1)) (j + 1)
    have hcons : longL before j (code.drop j) = min (nextL before (longL before (j + 1) (code.drop (j + 1))) j code[j] + 1) 1099511627777 :: longL before (j + 1) (code.drop (j + 1)) := by
      rw [List.drop_eq_getElem_cons hjl, longL_cons]; rfl
    generalize code[j] = ii at c4 g1 g2 hcons
    generalize longL before (j + 1) (code.drop (j + 1)) = L at hLl hLi hcons ⊢
    have hnx := nextL_in hbI hLi j ii
    have hset : ∀ v : Int, (cellsM (j + 1) L).set (0 + (j : Int).toNat * 1) (.int .i64 v) = cellsM j (v :: L) := fun v => by rw [show 0 + (j : Int).toNat * 1 = j by omega]; exact cellsM_set v
    have hcl2 := cellsM_len (j + 1) L
    have hd0 : L.getD 0 0 = L.headD 0 := by cases L <;> rfl
    have hh1 := headD_in hLi (by decide)
    have n7 : ii.1 = 7 → nextL before L j ii = L.getD (ii.2.2.1 - j - 1).toNat 0 := fun h => by unfold nextL; rw [if_pos h]
    have n8 : ¬ ii.1 = 7 → ii.1 = 8 → nextL before L j ii = max (L.headD 0) (L.getD (ii.2.2.1 - j - 1).toNat 0) := fun h7 h => by unfold nextL; rw [if_neg h7, if_pos h]
    have n9 : ¬ ii.1 = 7 → ¬ ii.1 = 8 → ii.1 = 9 → nextL before L j ii = L.headD 0 + before.getD ii.2.1.toNat 0 := fun h7 h8 h => by unfold nextL; rw [if_neg h7, if_neg h8, if_pos h]
    have nE : ¬ ii.1 = 7 → ¬ ii.1 = 8 → ¬ ii.1 = 9 → nextL before L j ii = L.headD 0 := fun h7 h8 h => by unfold nextL; rw [if_neg h7, if_neg h8, if_neg h]
    have hB : ii.1 = 7 ∨ ii.1 = 8 → (cellsM (j + 1) L)[0 + ii.2.2.1.toNat * 1]? = some (.int .i64 (L.getD (ii.2.2.1 - j - 1).toNat 0)) := fun h => by
      have := g1 h
      rw [cellsM_at (m := j + 1) (i := 0 + ii.2.2.1.toNat * 1) (by omega) (by omega)]
      congr 3; omega
    have hA : ii.1 = 9 → cb[ob + ii.2.1.toNat * 1]? = some (.int .i64 (before.getD ii.2.1.toNat 0)) := fun h => by
      have hlt := g2 h
      rw [Nat.mul_one]
      refine (hbr (by omega)).2.2 _ _ ?_
      rw [List.getElem?_map, List.getElem?_eq_getElem (by omega), List.getD_eq_getElem?_getD, List.getElem?_eq_getElem (by omega)]; rfl
    have h31 : (cellsM (j + 1) L)[0 + ((j : Int) + 1).toNat * 1]? = some (.int .i64 (L.headD 0)) := by
      rw [cellsM_at (m := j + 1) (i := 0 + ((j : Int) + 1).toNat * 1) (by omega) (by omega), ← hd0]; congr 3; omega
    have hbb := fun h : ii.1 = 9 => getD_in hbI (by decide) ii.2.1.toNat
    refine g_skip ?_
    refine g_qt ?_
    refine g_seq ?_
    refine g_block ?_
    refine g_seq ?_
    refine g_region ?_
    refine g_pure (p_fieldAddr rfl) rfl ?_
    refine g_pure (p_load (by rfl) rfl (by first | (apply Has.own; (repeat' (first | exact Take.here | apply Take.there)); done) | exact Has.ro (by assumption)) (by first | rfl | assumption)) rfl ?_
    refine g_pure (p_move rfl) rfl ?_
    refine g_pure (p_indexAddr rfl rfl (by omega) (fun _ => c1)) rfl ?_
    refine g_pure (p_loadN (by rfl) rfl (Has.ro c2) (by rw [Int.toNat_natCast]; exact c4)) rfl ?_
    refine g_eff (e_alloc (by rfl)) rfl (fun _ _ => ?_)
    rintro ⟨b7, rfl, rfl⟩
    first | refine g_eff0 (e_storeO rfl rfl (by rfl) (by rfl) (by rfl) (by repeat' (first | exact Take.here | apply Take.there)) (by rfl)) (fun _ _ => ?_) | refine g_eff0 (e_storeN rfl rfl (by rfl) (by rfl) (by rfl) (by repeat' (first | exact Take.here | apply Take.there)) (by simp)) (fun _ _ => ?_)
    rintro rfl
    refine g_nil ?_
    refine g_qt ?_
    refine g_seq ?_
    refine g_region ?_
    refine g_pure (p_move rfl) rfl ?_
    refine g_pure (p_move rfl) rfl ?_
    first | refine g_pure (p_addi rfl rfl (by omega)) rfl ?_ | refine g_pure (p_add rfl rfl) rfl ?_
    refine g_pure (p_indexAddr rfl rfl (by omega) (fun _ => rfl)) rfl ?_
    refine g_pure (p_load (v := .int .i64 (L.headD 0)) (by rfl) rfl (Has.own (by repeat' (first | exact Take.here | apply Take.there))) h31) rfl ?_
    refine g_pure (p_assign rfl) rfl ?_
    refine g_nil ?_
    refine g_qt ?_
    refine g_seq ?_
    refine g_seq ?_
    refine g_region ?_
    refine g_pure (p_fieldAddr rfl) rfl ?_
    refine g_pure (p_load (by rfl) rfl (by first | (apply Has.own; (repeat' (first | exact Take.here | apply Take.there)); done) | exact Has.ro (by assumption)) (by first | rfl | assumption)) rfl ?_
    refine g_nil ?_
    refine g_qt ?_
    refine g_block ?_
    refine g_seq ?_
    refine g_region ?_
    refine g_pure (p_eql rfl rfl) rfl ?_
    refine g_pure (p_assign rfl) rfl ?_
    refine g_nil ?_
    refine g_qt ?_
    refine g_ifdL rfl (fun h1 => ?_) (fun h1 => ?_)
    · refine g_region ?_
      refine g_pure (p_move rfl) rfl ?_
      refine g_pure (p_fieldAddr rfl) rfl ?_
      refine g_pure (p_load (by rfl) rfl (by first | (apply Has.own; (repeat' (first | exact Take.here | apply Take.there)); done) | exact Has.ro (by assumption)) (by first | rfl | assumption)) rfl ?_
      refine g_pure (p_indexAddr rfl rfl (by have := g1 (.inl (by assumption)); omega) (fun _ => rfl)) rfl ?_
      refine g_pure (p_load (by rfl) rfl (Has.own (by repeat' (first | exact Take.here | apply Take.there))) (hB (.inl (by assumption)))) rfl ?_
      refine g_pure (p_assign rfl) rfl ?_
      refine g_nil ?_
      refine g_qb ?_
      refine g_qt ?_
      refine g_region ?_
      refine g_pure (p_move rfl) rfl ?_
      refine g_pure (p_move rfl) rfl ?_
      refine g_pure (p_move rfl) rfl ?_
      refine g_pure (p_addi rfl rfl (by have hx7 := n7; have hx8 := n8; have hx9 := n9; have hxE := nE; first | (rw [n7 (by assumption)] at hnx; omega) | (rw [n8 (by assumption) (by assumption)] at hnx; omega) | (rw [n9 (by assumption) (by assumption) (by assumption)] at hnx; omega) | omega)) rfl ?_
      refine g_pure (p_min rfl rfl) rfl ?_
      refine g_pure (p_indexAddr rfl rfl (by omega) (fun _ => rfl)) rfl ?_
      first | refine g_eff0 (e_storeO rfl rfl (by rfl) (by rfl) (by rfl) (by repeat' (first | exact Take.here | apply Take.there)) (by rfl)) (fun _ _ => ?_) | refine g_eff0 (e_store1 (by rfl) rfl rfl rfl (by repeat' (first | exact Take.here | apply Take.there)) (by first | decide | (simp <;> omega) | omega)) (fun _ _ => ?_)
      rintro rfl
      refine g_nil ?_
      refine g_qb ?_
      refine g_qt ?_
      refine g_region ?_
      refine g_pure (p_move rfl) rfl ?_
      first | refine g_pure (p_subi rfl rfl (by omega)) rfl ?_ | refine g_pure (p_sub rfl rfl) rfl ?_
      refine g_pure (p_assign rfl) rfl ?_
      refine g_nil ?_
      refine g_qn ?_
      first | (rw [← n7 (by assumption)]; rw [hset, ← hcons]; exact g_next (j, (j : Int) - 1) (by (repeat (first | exact trivial | refine ⟨by rfl, ?_⟩)); done) (by repeat' (first | exact Cover.nil | exact Take.here | apply Cover.cons | apply Take.there)) ⟨by dsimp only; omega, rfl⟩ (by dsimp only; omega)) | (rw [← n8 (by assumption) (by assumption)]; rw [hset, ← hcons]; exact g_next (j, (j : Int) - 1) (by (repeat (first | exact trivial | refine ⟨by rfl, ?_⟩)); done) (by repeat' (first | exact Cover.nil | exact Take.here | apply Cover.cons | apply Take.there)) ⟨by dsimp only; omega, rfl⟩ (by dsimp only; omega)) | (rw [← n9 (by assumption) (by assumption) (by assumption)]; rw [hset, ← hcons]; exact g_next (j, (j : Int) - 1) (by (repeat (first | exact trivial | refine ⟨by rfl, ?_⟩)); done) (by repeat' (first | exact Cover.nil | exact Take.here | apply Cover.cons | apply Take.there)) ⟨by dsimp only; omega, rfl⟩ (by dsimp only; omega)) | (have e9 := nE (by assumption) (by assumption) (by assumption); rw [hset, ← e9, ← hcons]; exact g_next (j, (j : Int) - 1) (by (repeat (first | exact trivial | refine ⟨by rfl, ?_⟩)); done) (by repeat' (first | exact Cover.nil | exact Take.here | apply Cover.cons | apply Take.there)) ⟨by dsimp only; omega, rfl⟩ (by dsimp only; omega))
    · refine g_seq ?_
      refine g_region ?_
      refine g_pure (p_eql rfl rfl) rfl ?_
      refine g_pure (p_assign rfl) rfl ?_
      refine g_nil ?_
      refine g_qt ?_
      refine g_ifdL rfl (fun h2 => ?_) (fun h2 => ?_)
      · refine g_region ?_
        refine g_pure (p_move rfl) rfl ?_
        refine g_pure (p_move rfl) rfl ?_
        refine g_pure (p_fieldAddr rfl) rfl ?_
        refine g_pure (p_load (by rfl) rfl (by first | (apply Has.own; (repeat' (first | exact Take.here | apply Take.there)); done) | exact Has.ro (by assumption)) (by first | rfl | assumption)) rfl ?_
        refine g_pure (p_indexAddr rfl rfl (by have := g1 (.inr (by assumption)); omega) (fun _ => rfl)) rfl ?_
        refine g_pure (p_load (by rfl) rfl (Has.own (by repeat' (first | exact Take.here | apply Take.there))) (hB (.inr (by assumption)))) rfl ?_
        refine g_pure (p_max rfl rfl) rfl ?_
        refine g_pure (p_assign rfl) rfl ?_
        refine g_nil ?_
        refine g_qb ?_
        refine g_qt ?_
        refine g_region ?_
        refine g_pure (p_move rfl) rfl ?_
        refine g_pure (p_move rfl) rfl ?_
        refine g_pure (p_move rfl) rfl ?_
        refine g_pure (p_addi rfl rfl (by have hx7 := n7; have hx8 := n8; have hx9 := n9; have hxE := nE; first | (rw [n7 (by assumption)] at hnx; omega) | (rw [n8 (by assumption) (by assumption)] at hnx; omega) | (rw [n9 (by assumption) (by assumption) (by assumption)] at hnx; omega) | omega)) rfl ?_
        refine g_pure (p_min rfl rfl) rfl ?_
        refine g_pure (p_indexAddr rfl rfl (by omega) (fun _ => rfl)) rfl ?_
        first | refine g_eff0 (e_storeO rfl rfl (by rfl) (by rfl) (by rfl) (by repeat' (first | exact Take.here | apply Take.there)) (by rfl)) (fun _ _ => ?_) | refine g_eff0 (e_store1 (by rfl) rfl rfl rfl (by repeat' (first | exact Take.here | apply Take.there)) (by first | decide | (simp <;> omega) | omega)) (fun _ _ => ?_)
        rintro rfl
        refine g_nil ?_
        refine g_qb ?_
        refine g_qt ?_
        refine g_region ?_
        refine g_pure (p_move rfl) rfl ?_
        first | refine g_pure (p_subi rfl rfl (by omega)) rfl ?_ | refine g_pure (p_sub rfl rfl) rfl ?_
        refine g_pure (p_assign rfl) rfl ?_
        refine g_nil ?_
        refine g_qn ?_
        first | (rw [← n7 (by assumption)]; rw [hset, ← hcons]; exact g_next (j, (j : Int) - 1) (by (repeat (first | exact trivial | refine ⟨by rfl, ?_⟩)); done) (by repeat' (first | exact Cover.nil | exact Take.here | apply Cover.cons | apply Take.there)) ⟨by dsimp only; omega, rfl⟩ (by dsimp only; omega)) | (rw [← n8 (by assumption) (by assumption)]; rw [hset, ← hcons]; exact g_next (j, (j : Int) - 1) (by (repeat (first | exact trivial | refine ⟨by rfl, ?_⟩)); done) (by repeat' (first | exact Cover.nil | exact Take.here | apply Cover.cons | apply Take.there)) ⟨by dsimp only; omega, rfl⟩ (by dsimp only; omega)) | (rw [← n9 (by assumption) (by assumption) (by assumption)]; rw [hset, ← hcons]; exact g_next (j, (j : Int) - 1) (by (repeat (first | exact trivial | refine ⟨by rfl, ?_⟩)); done) (by repeat' (first | exact Cover.nil | exact Take.here | apply Cover.cons | apply Take.there)) ⟨by dsimp only; omega, rfl⟩ (by dsimp only; omega)) | (have e9 := nE (by assumption) (by assumption) (by assumption); rw [hset, ← e9, ← hcons]; exact g_next (j, (j : Int) - 1) (by (repeat (first | exact trivial | refine ⟨by rfl, ?_⟩)); done) (by repeat' (first | exact Cover.nil | exact Take.here | apply Cover.cons | apply Take.there)) ⟨by dsimp only; omega, rfl⟩ (by dsimp only; omega))
      · refine g_seq ?_
        refine g_region ?_
        refine g_pure (p_eql rfl rfl) rfl ?_
        refine g_pure (p_assign rfl) rfl ?_
        refine g_nil ?_
        refine g_qt ?_
        refine g_ifdL rfl (fun h3 => ?_) (fun h3 => ?_)
        · refine g_region ?_
          refine g_pure (p_move rfl) rfl ?_
          refine g_pure (p_move rfl) rfl ?_
          refine g_pure (p_fieldAddr rfl) rfl ?_
          refine g_pure (p_load (by rfl) rfl (by first | (apply Has.own; (repeat' (first | exact Take.here | apply Take.there)); done) | exact Has.ro (by assumption)) (by first | rfl | assumption)) rfl ?_
          refine g_pure (p_indexAddr rfl rfl (by have := g2 (by assumption); omega) (fun _ => (hbr (by have := g2 (by assumption); omega)).1)) rfl ?_
          refine g_pure (p_load (by rfl) rfl (Has.ro (hbr (by have := g2 (by assumption); omega)).2.1) (hA (by assumption))) rfl ?_
          refine g_pure (p_addi rfl rfl (by have := hbb (by assumption); omega)) rfl ?_
          refine g_pure (p_assign rfl) rfl ?_
          refine g_nil ?_
          refine g_qb ?_
          refine g_qt ?_
          refine g_region ?_
          refine g_pure (p_move rfl) rfl ?_
          refine g_pure (p_move rfl) rfl ?_
          refine g_pure (p_move rfl) rfl ?_
          refine g_pure (p_addi rfl rfl (by have hx7 := n7; have hx8 := n8; have hx9 := n9; have hxE := nE; first | (rw [n7 (by assumption)] at hnx; omega) | (rw [n8 (by assumption) (by assumption)] at hnx; omega) | (rw [n9 (by assumption) (by assumption) (by assumption)] at hnx; omega) | omega)) rfl ?_
          refine g_pure (p_min rfl rfl) rfl ?_
          refine g_pure (p_indexAddr rfl rfl (by omega) (fun _ => rfl)) rfl ?_
          first | refine g_eff0 (e_storeO rfl rfl (by rfl) (by rfl) (by rfl) (by repeat' (first | exact Take.here | apply Take.there)) (by rfl)) (fun _ _ => ?_) | refine g_eff0 (e_store1 (by rfl) rfl rfl rfl (by repeat' (first | exact Take.here | apply Take.there)) (by first | decide | (simp <;> omega) | omega)) (fun _ _ => ?_)
          rintro rfl
          refine g_nil ?_
          refine g_qb ?_
          refine g_qt ?_
          refine g_region ?_
          refine g_pure (p_move rfl) rfl ?_
          first | refine g_pure (p_subi rfl rfl (by omega)) rfl ?_ | refine g_pure (p_sub rfl rfl) rfl ?_
          refine g_pure (p_assign rfl) rfl ?_
          refine g_nil ?_
          refine g_qn ?_
          first | (rw [← n7 (by assumption)]; rw [hset, ← hcons]; exact g_next (j, (j : Int) - 1) (by (repeat (first | exact trivial | refine ⟨by rfl, ?_⟩)); done) (by repeat' (first | exact Cover.nil | exact Take.here | apply Cover.cons | apply Take.there)) ⟨by dsimp only; omega, rfl⟩ (by dsimp only; omega)) | (rw [← n8 (by assumption) (by assumption)]; rw [hset, ← hcons]; exact g_next (j, (j : Int) - 1) (by (repeat (first | exact trivial | refine ⟨by rfl, ?_⟩)); done) (by repeat' (first | exact Cover.nil | exact Take.here | apply Cover.cons | apply Take.there)) ⟨by dsimp only; omega, rfl⟩ (by dsimp only; omega)) | (rw [← n9 (by assumption) (by assumption) (by assumption)]; rw [hset, ← hcons]; exact g_next (j, (j : Int) - 1) (by (repeat (first | exact trivial | refine ⟨by rfl, ?_⟩)); done) (by repeat' (first | exact Cover.nil | exact Take.here | apply Cover.cons | apply Take.there)) ⟨by dsimp only; omega, rfl⟩ (by dsimp only; omega)) | (have e9 := nE (by assumption) (by assumption) (by assumption); rw [hset, ← e9, ← hcons]; exact g_next (j, (j : Int) - 1) (by (repeat (first | exact trivial | refine ⟨by rfl, ?_⟩)); done) (by repeat' (first | exact Cover.nil | exact Take.here | apply Cover.cons | apply Take.there)) ⟨by dsimp only; omega, rfl⟩ (by dsimp only; omega))
        · refine g_skip ?_
          refine g_qb ?_
          refine g_qt ?_
          refine g_region ?_
          refine g_pure (p_move rfl) rfl ?_
          refine g_pure (p_move rfl) rfl ?_
          refine g_pure (p_move rfl) rfl ?_
          refine g_pure (p_addi rfl rfl (by have hx7 := n7; have hx8 := n8; have hx9 := n9; have hxE := nE; first | (rw [n7 (by assumption)] at hnx; omega) | (rw [n8 (by assumption) (by assumption)] at hnx; omega) | (rw [n9 (by assumption) (by assumption) (by assumption)] at hnx; omega) | omega)) rfl ?_
          refine g_pure (p_min rfl rfl) rfl ?_
          refine g_pure (p_indexAddr rfl rfl (by omega) (fun _ => rfl)) rfl ?_
          first | refine g_eff0 (e_storeO rfl rfl (by rfl) (by rfl) (by rfl) (by repeat' (first | exact Take.here | apply Take.there)) (by rfl)) (fun _ _ => ?_) | refine g_eff0 (e_store1 (by rfl) rfl rfl rfl (by repeat' (first | exact Take.here | apply Take.there)) (by first | decide | (simp <;> omega) | omega)) (fun _ _ => ?_)
          rintro rfl
          refine g_nil ?_
          refine g_qb ?_
          refine g_qt ?_
          refine g_region ?_
          refine g_pure (p_move rfl) rfl ?_
          first | refine g_pure (p_subi rfl rfl (by omega)) rfl ?_ | refine g_pure (p_sub rfl rfl) rfl ?_
          refine g_pure (p_assign rfl) rfl ?_
          refine g_nil ?_
          refine g_qn ?_
          first | (rw [← n7 (by assumption)]; rw [hset, ← hcons]; exact g_next (j, (j : Int) - 1) (by (repeat (first | exact trivial | refine ⟨by rfl, ?_⟩)); done) (by repeat' (first | exact Cover.nil | exact Take.here | apply Cover.cons | apply Take.there)) ⟨by dsimp only; omega, rfl⟩ (by dsimp only; omega)) | (rw [← n8 (by assumption) (by assumption)]; rw [hset, ← hcons]; exact g_next (j, (j : Int) - 1) (by (repeat (first | exact trivial | refine ⟨by rfl, ?_⟩)); done) (by repeat' (first | exact Cover.nil | exact Take.here | apply Cover.cons | apply Take.there)) ⟨by dsimp only; omega, rfl⟩ (by dsimp only; omega)) | (rw [← n9 (by assumption) (by assumption) (by assumption)]; rw [hset, ← hcons]; exact g_next (j, (j : Int) - 1) (by (repeat (first | exact trivial | refine ⟨by rfl, ?_⟩)); done) (by repeat' (first | exact Cover.nil | exact Take.here | apply Cover.cons | apply Take.there)) ⟨by dsimp only; omega, rfl⟩ (by dsimp only; omega)) | (have e9 := nE (by assumption) (by assumption) (by assumption); rw [hset, ← e9, ← hcons]; exact g_next (j, (j : Int) - 1) (by (repeat (first | exact trivial | refine ⟨by rfl, ?_⟩)); done) (by repeat' (first | exact Cover.nil | exact Take.here | apply Cover.cons | apply Take.there)) ⟨by dsimp only; omega, rfl⟩ (by dsimp only; omega))
  · have hm0 : m = 0 := by omega
    subst hm0
    have hhd : (cellsM 0 (longL before 0 (code.drop 0)))[0 + (0 : Int).toNat * 1]? = some (.int .i64 ((longL before 0 code).headD 0)) := by
      rw [List.drop_zero, cellsM_at (by omega) (by rw [longL_len]; omega)]
      have hd0 : (longL before 0 code).getD 0 0 = (longL before 0 code).headD 0 := by cases longL before 0 code <;> rfl
      rw [← hd0]; rfl
    refine g_exit ?_
    refine g_qt_exit ?_
    refine g_qn_exit ?_
    refine g_qb_exit ?_
    refine g_qt ?_
    refine g_seq ?_
    refine g_region ?_
    refine g_pure (p_move rfl) rfl ?_
    refine g_pure (p_indexAddr rfl rfl (by omega) (fun _ => rfl)) rfl ?_
    refine g_pure (p_load (by rfl) rfl (Has.own (by repeat' (first | exact Take.here | apply Take.there))) hhd) rfl ?_
    refine g_pure (p_assign rfl) rfl ?_
    refine g_nil ?_
    refine g_qt ?_
    refine g_ret ?_
    exact g_post (rs := [.tmp 4]) rfl (.tmp rfl .nil) ⟨rfl, rfl⟩ (by repeat' (first | exact Cover.nil | exact Take.here | apply Cover.cons | apply Take.there))
end Go.Proofs.YtcnfcoojmbjdlaaGreatDoor
/- Chapter 26: the longest way through an image, all routines. Conditions: what the table of operations holds (OpsK). -/
namespace Go.Proofs.YtcnfcoojmbjdlaaGreatDoor
set_option maxRecDepth 8000
set_option linter.unusedVariables false
set_option linter.unusedSimpArgs false
set_option linter.unusedSectionVars false
open Go Go.Z Go.Z.Asm

theorem good_code {im : Im} {k : Nat} {r : Rt} (hg : RtGood im k r) (hw : ∀ (j : Nat) (hj : j < r.2.2.2.2.2.length), True) : ∀ j (hj : j < r.2.2.2.2.2.length), (r.2.2.2.2.2[j].1 = 7 ∨ r.2.2.2.2.2[j].1 = 8 → (j : Int) < r.2.2.2.2.2[j].2.2.1 ∧ r.2.2.2.2.2[j].2.2.1 ≤ r.2.2.2.2.2.length) ∧ (r.2.2.2.2.2[j].1 = 9 → 0 ≤ r.2.2.2.2.2[j].2.1 ∧ r.2.2.2.2.2[j].2.1 < k) := fun j hj => by
  obtain ⟨h1, h2⟩ := codeE_zero im.2 k _ _ 0 hg.co j hj
  rw [Nat.zero_add] at h1
  exact ⟨fun h => form_target h1 h, fun h => range_call h2 h⟩
theorem worstA_ok {ρ : Nat → Obj → Prop} (hO : OpsK ρ) {ea ra : Option Addr} {ec rc : Nat} {im : Im} (h : ImI ρ ea ra im) :
    Con Tryz.prog ρ 21 #[.agg #[.slice ea im.1.length ec, .slice ra im.2.length rc]] [] (fun v H => v = .tuple #[.int .i64 (worstP im).1, .int .i64 (worstP im).2] ∧ H = []) := by
  have hrl := h.rl
  refine con_intro Tryz.func21 Tryz.call21 rfl Tryz.ntmps21 rfl (L := [(0, _)]) rfl fun w hh => ?_
  refine g_seq ?_
  refine g_region ?_
  refine g_eff (e_box rfl (by rfl)) rfl (fun _ _ => ?_)
  rintro ⟨b1, rfl, rfl⟩
  refine g_pure (p_assign rfl) rfl ?_
  refine g_pure (p_assign rfl) rfl ?_
  refine g_nil ?_
  refine g_qt ?_
  refine g_seq ?_
  refine g_seq ?_
  refine g_region ?_
  first | refine g_pure (p_loadO (by rfl) rfl (by first | (apply Has.own; (repeat' (first | exact Take.here | apply Take.there)); done) | exact Has.ro (by assumption)) (by rfl)) rfl ?_ | refine g_pure (p_loadN (by rfl) rfl (by first | (apply Has.own; (repeat' (first | exact Take.here | apply Take.there)); done) | exact Has.ro (by assumption)) (by first | rfl | assumption)) rfl ?_
  refine g_call (Hin := []) (Hr := ?hr1) (R := ?rr1) rfl rfl rfl ?hin1 ?hc1 ?hk1
  case hin1 => repeat' (first | exact Cover.nil | exact Take.here | apply Cover.cons | apply Take.there)
  case hc1 => intro ρ' hρ hR; exact checkA_ok (ec := ec) (rc := rc) (hO.mono hρ) (h.mono hρ)
  rintro _ _ ⟨rfl, rfl⟩
  refine g_pure (p_assign rfl) rfl ?_
  refine g_nil ?_
  refine g_qt ?_
  refine g_seq ?_
  refine g_region ?_
  refine g_pure (p_move rfl) rfl ?_
  refine g_pure (p_neq rfl rfl) rfl ?_
  refine g_nil ?_
  refine g_qt ?_
  refine g_ifnd rfl (fun h1 => ?_) (fun h1 => ?_)
  · refine g_seq ?_
    refine g_region ?_
    refine g_pure (p_move rfl) rfl ?_
    refine g_pure (p_assign rfl) rfl ?_
    refine g_pure (p_assign rfl) rfl ?_
    refine g_nil ?_
    refine g_qt ?_
    refine g_ret ?_
    refine g_qt_ret ?_
    exact g_post (rs := [.tmp 2, .tmp 3]) rfl (.tmp rfl (.tmp rfl .nil)) ⟨by unfold worstP; rw [if_neg h1]; rfl, rfl⟩ (by repeat' (first | exact Cover.nil | exact Take.here | apply Cover.cons | apply Take.there))
  · have hE : checkP im = 0 := by omega
    have hW : worstP im = if farN < (worstL im.2).getLastD 0 then (0, 3) else ((worstL im.2).getLastD 0, 0) := by unfold worstP; rw [if_pos hE]
    rw [hW]
    obtain ⟨g1, g2, g3, g4⟩ := checkP_zero hE
    refine g_skip ?_
    refine g_qt ?_
    refine g_seq ?_
    refine g_region ?_
    refine g_pure (p_assign rfl) rfl ?_
    refine g_nil ?_
    refine g_qt ?_
    refine g_seq ?_
    refine g_seq ?_
    refine g_region ?_
    refine g_pure (p_fieldAddr rfl) rfl ?_
    refine g_pure (p_load (by rfl) rfl (by first | (apply Has.own; (repeat' (first | exact Take.here | apply Take.there)); done) | exact Has.ro (by assumption)) (by first | rfl | assumption)) rfl ?_
    refine g_pure (p_len (by rfl) rfl) rfl ?_
    refine g_pure (p_move rfl) rfl ?_
    refine g_nil ?_
    refine g_qt ?_
    refine g_block ?_
    refine g_ownnil (e := 3) (size := 1) ?_
    refine g_loop (fun q : Nat × Option Addr × Nat => [(5, .slice q.2.1 (worstL (im.2.take q.1)).length q.2.2), (15, .slice ra im.2.length rc), (16, .int .i64 im.2.length), (17, .int .i64 q.1)])
      (fun q => [OwnSl 3 1 q.2.1 (worstL (im.2.take q.1)).length q.2.2 ((worstL (im.2.take q.1)).map encI)]) (fun q => q.1 ≤ im.2.length) (fun q => im.2.length - q.1) (0, none, 0) (Nat.zero_le _) (by (repeat (first | exact trivial | refine ⟨by rfl, ?_⟩)); done) (by repeat' (first | exact Cover.nil | exact Take.here | apply Cover.cons | apply Take.there)) ?_
    rintro ⟨k, oa, oc⟩ hk1
    dsimp only at hk1 ⊢
    refine g_seq ?_
    refine g_region ?_
    refine g_pure (p_lss rfl rfl) rfl ?_
    refine g_nil ?_
    refine g_qt ?_
    refine g_seq ?_
    refine g_ifd rfl (fun q => ?_) (fun q => ?_)
    · have hkl : k < im.2.length := by omega
      have hst := worstL_step im.2 hkl
      have hwl := worstL_len im.2 k hk1
      have hwi := worstL_in im.2 k hk1
      obtain ⟨b, off, cs, T, fz, r1, r2, r3⟩ := h.rs (by omega)
      obtain ⟨row, q1, q2, q3⟩ := r3 k hkl
      have hok := h.ok im.2[k] (List.getElem_mem hkl)
      have hgd := g4 k hkl
      generalize im.2[k] = x0 at q1 hok hgd hst
      generalize worstL (im.2.take k) = W at hst hwl hwi ⊢
      have hcode := good_code hgd (fun _ _ => trivial)
      obtain ⟨ia, ic, oa', oc', na, nc, ca, cc, e0, hi, ho, hn, hc⟩ := q1
      subst e0
      have hcl := hgd.cl
      refine g_skip ?_
      refine g_qt ?_
      refine g_seq ?_
      refine g_block ?_
      refine g_seq ?_
      refine g_region ?_
      refine g_pure (p_indexAddr rfl rfl (by omega) (fun _ => r1)) rfl ?_
      refine g_pure (p_loadN (by rfl) rfl (Has.ro r2) (by rw [Int.toNat_natCast]; exact q2)) rfl ?_
      refine g_eff (e_alloc (by rfl)) rfl (fun _ _ => ?_)
      rintro ⟨b7, rfl, rfl⟩
      first | refine g_eff0 (e_storeO rfl rfl (by rfl) (by rfl) (by rfl) (by repeat' (first | exact Take.here | apply Take.there)) (by rfl)) (fun _ _ => ?_) | refine g_eff0 (e_storeN rfl rfl (by rfl) (by rfl) (by rfl) (by repeat' (first | exact Take.here | apply Take.there)) (by simp)) (fun _ _ => ?_)
      rintro rfl
      refine g_nil ?_
      refine g_qt ?_
      refine g_region ?_
      refine g_pure (p_move rfl) rfl ?_
      first | refine g_pure (p_loadO (by rfl) rfl (by first | (apply Has.own; (repeat' (first | exact Take.here | apply Take.there)); done) | exact Has.ro (by assumption)) (by rfl)) rfl ?_ | refine g_pure (p_loadN (by rfl) rfl (by first | (apply Has.own; (repeat' (first | exact Take.here | apply Take.there)); done) | exact Has.ro (by assumption)) (by first | rfl | assumption)) rfl ?_
      refine g_pure (p_move rfl) rfl ?_
      refine g_call (Hin := []) (Hr := ?hr2) (R := ?rr2) rfl rfl rfl ?hin2 ?hc2 ?hk2
      case hin2 => repeat' (first | exact Cover.nil | exact Take.here | apply Cover.cons | apply Take.there)
      case hc2 => intro ρ' hρ hR; exact longest_ok (strB x0.1) ia oa' na ca x0.2.1.length ic x0.2.2.1.length oc' x0.2.2.2.2.1.length nc cc x0.2.2.2.1 x0.2.2.2.2.2 (hc.mono hρ) (by omega) oa oc W (RSl.of_own (Take.ro (A := OwnSl 3 1 oa W.length oc (W.map encI)) (by repeat' (first | exact Take.here | apply Take.there)) hR)) hwi (fun j hj => by have := hcode j hj; rw [hwl]; exact this)
      rintro _ _ ⟨rfl, rfl⟩
      refine g_eff (e_bs (xs := [.tmp 24]) rfl rfl rfl (by rfl) (by rfl) rfl (by rfl)) rfl (fun _ _ => ?_)
      rintro ⟨b25, rfl, rfl⟩
      refine g_eff (e_appendO (by rfl) (by rfl) rfl rfl (by first | (apply Has.own; (repeat' (first | exact Take.here | apply Take.there)); done) | exact Has.ro (by assumption)) (by rfl) (by rfl) (by repeat' (first | exact Take.here | apply Take.there)) (by omega) (by first | omega | (dsimp only; omega) | (simp <;> omega)) (by omega)) rfl (fun _ _ => ?_)
      rintro ⟨a26, c26, rfl, rfl⟩
      refine g_pure (p_assign rfl) rfl ?_
      refine g_nil ?_
      refine g_qb ?_
      refine g_qt ?_
      refine g_region ?_
      first | refine g_pure (p_addi rfl rfl (by omega)) rfl ?_ | refine g_pure (p_add rfl rfl) rfl ?_
      refine g_pure (p_move rfl) rfl ?_
      refine g_nil ?_
      refine g_qn ?_
      rw [show W.map encI ++ [Value.int IntKind.i64 ((longL W 0 x0.2.2.2.2.2).headD 0)] = (worstL (im.2.take (k + 1))).map encI by rw [hst, List.map_append]; rfl, show W.length + 1 = (worstL (im.2.take (k + 1))).length by rw [hst, List.length_append]; rfl]
      exact g_next (k + 1, a26, c26) (by (repeat (first | exact trivial | refine ⟨by rfl, ?_⟩)); done) (by repeat' (first | exact Cover.nil | exact Take.here | apply Cover.cons | apply Take.there)) hkl (by dsimp only; omega)
    · have hke : k = im.2.length := by omega
      subst hke
      have hwl := worstL_len im.2 im.2.length (Nat.le_refl _)
      have hwi := worstL_in im.2 im.2.length (Nat.le_refl _)
      rw [List.take_length] at hwl hwi ⊢
      have hlast : ((worstL im.2).map encI)[((worstL im.2).length - 1)]? = some (.int .i64 ((worstL im.2).getLastD 0)) := by
        rw [List.getElem?_map, ← List.getLast?_eq_getElem?, List.getLastD_eq_getLast?]
        cases e : (worstL im.2).getLast? with
        | none =>
          rw [List.getLast?_eq_none_iff] at e
          rw [e] at hwl; simp at hwl; omega
        | some v => rfl
      have hlI : 0 ≤ (worstL im.2).getLastD 0 ∧ (worstL im.2).getLastD 0 ≤ farN + 1 := by
        rw [List.getLastD_eq_getLast?]
        cases e : (worstL im.2).getLast? with
        | none => exact ⟨Int.le_refl 0, by decide⟩
        | some v => exact hwi v (List.mem_of_getLast? e)
      generalize worstL im.2 = W at hwl hlast hlI ⊢
      refine g_own (e := 3) (size := 1) (a1 := oa) (k := W.length) (cap := oc) (xs := W.map encI) (by repeat' (first | exact Take.here | apply Take.there)) (fun _ h _ _ => absurd h (by omega)) ?_
      rintro g cur rfl hc1 hc2 hcl htk hxl
      refine g_exit ?_
      refine g_qt_exit ?_
      refine g_qn_exit ?_
      refine g_qb_exit ?_
      refine g_qt ?_
      refine g_seq ?_
      refine g_region ?_
      refine g_pure (p_move rfl) rfl ?_
      refine g_pure (p_move rfl) rfl ?_
      refine g_pure (p_len (by rfl) rfl) rfl ?_
      first | refine g_pure (p_subi rfl rfl (by omega)) rfl ?_ | refine g_pure (p_sub rfl rfl) rfl ?_
      refine g_pure (p_indexAddr rfl rfl (by omega) (fun _ => rfl)) rfl ?_
      refine g_pure (p_load (v := .int .i64 (W.getLastD 0)) (by rfl) rfl (Has.own (by repeat' (first | exact Take.here | apply Take.there))) (own_at (k := W.length - 1) htk (by show 0 + ((W.length : Int) - 1).toNat * 1 = _; omega) hlast)) rfl ?_
      refine g_pure (p_assign rfl) rfl ?_
      refine g_nil ?_
      refine g_qt ?_
      refine g_seq ?_
      refine g_seq ?_
      refine g_region ?_
      refine g_pure (p_move rfl) rfl ?_
      refine g_pure (p_gtr rfl rfl) rfl ?_
      refine g_nil ?_
      refine g_qt ?_
      refine g_ifd rfl (fun h2 => ?_) (fun h2 => ?_)
      · refine g_seq ?_
        refine g_region ?_
        refine g_pure (p_assign rfl) rfl ?_
        refine g_pure (p_assign rfl) rfl ?_
        refine g_nil ?_
        refine g_qt ?_
        refine g_ret ?_
        refine g_qt_ret ?_
        exact g_post (rs := [.tmp 2, .tmp 3]) rfl (.tmp rfl (.tmp rfl .nil)) ⟨by rw [if_pos (show farN < _ from h2)]; rfl, rfl⟩ (by repeat' (first | exact Cover.nil | exact Take.here | apply Cover.cons | apply Take.there))
      · refine g_skip ?_
        refine g_qt ?_
        refine g_seq ?_
        refine g_region ?_
        refine g_pure (p_move rfl) rfl ?_
        refine g_pure (p_assign rfl) rfl ?_
        refine g_pure (p_assign rfl) rfl ?_
        refine g_nil ?_
        refine g_qt ?_
        refine g_ret ?_
        exact g_post (rs := [.tmp 2, .tmp 3]) rfl (.tmp rfl (.tmp rfl .nil)) ⟨by rw [if_neg (show ¬ farN < _ from h2)]; rfl, rfl⟩ (by repeat' (first | exact Cover.nil | exact Take.here | apply Cover.cons | apply Take.there))
end Go.Proofs.YtcnfcoojmbjdlaaGreatDoor
/- Chapter 26: runs of numbers; sorting and dropping repeats; what an instruction reads and writes. Conditions: none. -/
namespace Go.Z
set_option maxRecDepth 8000
set_option linter.unusedVariables false
set_option linter.unusedSimpArgs false
set_option linter.unusedSectionVars false
open Go Go.Sort
theorem ms_same {ρ : Nat → Obj → Prop} {H : List Assn} {hp : Hp} {w : World} (s : Sat H hp) (su : Sub hp w) (r : ∀ b o, ρ b o → w.heap[b]? = some o ∧ hp b = none) : Ms ⟨ρ, w, hp⟩ H w :=
  ⟨rfl, rfl, rfl, Nat.le_refl _, fun _ _ _ => rfl, fun b o h => (r b o h).1, hp, s, su, fun b h => .inl h, fun b o h => (r b o h).2⟩
theorem sat_own {e : TypeId} {size : Nat} {a : Option Addr} {k cap : Nat} {xs : List Value} {hp : Hp} (s : Sat [OwnSl e size a k cap xs] hp) (h0 : 0 < k) :
    xs.length = k * size ∧ ∃ (g : Nat) (cur : List Value), a = some ⟨g, 0, none⟩ ∧ k ≤ cap ∧ cap ≤ maxLen ∧ cur.length = cap * size ∧ cur.take (k * size) = xs ∧ hp = one g (.cells cur.toArray e (0, 0)) := by
  obtain ⟨h1, h2, ⟨e1, e2⟩, e3, _, e4⟩ := s
  have e3' : h2 = fun _ => none := e3
  subst e3'
  have e5 : hp = h1 := by rw [e4]; funext c; unfold join; cases h1 c <;> rfl
  subst e5
  refine ⟨e1, ?_⟩
  rcases e2 with ⟨_, a2, _⟩ | h
  · omega
  · exact h
/-- a call that leaves the row g of the caller's with other cells -/
theorem ms_row {ρ : Nat → Obj → Prop} {w : World} {g cap k' : Nat} {cur : List Value} {T : TypeId} (hw : w.heap[g]? = some (.cells cur.toArray T (0, 0))) (hr : ∀ b' o, ρ b' o → w.heap[b']? = some o ∧ one g (.cells cur.toArray T (0, 0)) b' = none)
    (hcl : cur.length = cap * 1) (hcm : cap ≤ maxLen) (d : List Int) (hd : d.length ≤ cap) (hk : k' ≤ d.length) (k : Nat) (os : Array Obj) :
    Ms ⟨ρ, w, one g (.cells cur.toArray T (0, 0))⟩ [OwnSl T 1 (some ⟨g, 0, none⟩) k' cap ((d.take k').map encI)] (grow (putRow encI (w.drewN k) g 0 d.toArray) os) := by
  have h := ms_put encI hw hr d.toArray 0 k os
  rw [put_zero encI d cur (by omega)] at h
  have hm : cap ≤ 9223372036854775807 := by simp only [maxLen] at hcm; omega
  refine h.weaken (fun q hq => ?_)
  have := own_of_blk (e := T) (size := 1) (g := g) (k := k') (cap := cap) (cur := d.map encI ++ cur.drop d.length) (by omega) hm (by simp; omega) q hq
  rw [Nat.mul_one, List.take_append_of_le_length (by simpa using hk), ← List.map_take] at this
  exact this
end Go.Z
namespace Go.Z.Asm
set_option maxRecDepth 8000
set_option linter.unusedVariables false
set_option linter.unusedSimpArgs false
set_option linter.unusedSectionVars false
open Go Go.Z Go.Lib
def leI : Int → Int → Bool := fun x y => decide (x ≤ y)
theorem runP_len (a : Int) (n : Nat) : (runP a n).length = n := by simp [runP]
theorem runP_step (a : Int) (k : Nat) : runP a (k + 1) = runP a k ++ [a + k] := by unfold runP; rw [List.range_succ, List.map_append]; rfl
theorem runP_at (a : Int) (n : Nat) (i : Nat) (h : i < n) : (runP a n)[i]'(by rw [runP_len]; exact h) = a + i := by simp [runP]
theorem sort_run (a : Int) (n : Nat) : (runP a n).mergeSort leI = runP a n := by
  apply List.mergeSort_of_pairwise
  rw [List.pairwise_iff_getElem]
  intro i j h1 h2 hij
  rw [runP_len] at h1 h2
  rw [runP_at a n i h1, runP_at a n j h2]
  simp [leI]; omega
theorem compact_run (a : Int) (n : Nat) : compact (runP a n) = runP a n := by
  refine compact_all _ fun j hj => ?_
  rw [runP_len] at hj
  unfold keeps
  rw [decide_eq_true_eq]
  by_cases h0 : j = 0
  · exact .inl h0
  · right
    rw [getElem!_pos _ j (by simp [runP_len]; exact hj), getElem!_pos _ (j - 1) (by simp [runP_len]; omega)]
    simp [runP]; omega
theorem compact_two (x y : Int) : compact [x, y] = if x = y then [x] else [x, y] := by
  unfold compact
  show compactUpTo [x, y].toArray (0 + 1 + 1) = _
  rw [compactUpTo_succ, compactUpTo_succ]
  have e0 : compactUpTo [x, y].toArray 0 = [] := rfl
  have e1 : keeps [x, y].toArray 0 = true := by simp [keeps]
  have e2 : keeps [x, y].toArray (0 + 1) = decide (y ≠ x) := by simp [keeps]
  rw [e0, e1, e2]
  by_cases h : x = y
  · subst h; simp
  · have : y ≠ x := fun e => h e.symm
    simp [h, this]
theorem compact_one (x : Int) : compact [x] = [x] := by
  refine compact_all _ fun j hj => ?_
  have : j = 0 := by simpa using hj
  subst this; simp [keeps]
theorem sort_two (x y : Int) : [x, y].mergeSort leI = [min x y, max x y] := by
  by_cases h : x ≤ y
  · have : [x, y].mergeSort leI = [x, y] := by apply List.mergeSort_of_pairwise; simp [leI, h]
    rw [this, Int.min_eq_left h, Int.max_eq_right h]
  · have h' : y ≤ x := by omega
    rw [Int.min_eq_right h', Int.max_eq_left h']
    simp [List.mergeSort, List.MergeSort.Internal.splitInTwo, List.merge, leI, h]
/-- the registers before they are sorted -/
def rawU (rts : List Rt) (i : Ins) : List Int :=
  if i.1 = 2 ∨ i.1 = 4 ∨ i.1 = 5 then [i.2.2.1] else if i.1 = 6 then [i.2.2.1, i.2.2.2.1] else if i.1 = 8 then [i.2.1] else if i.1 = 9 then runP i.2.2.2.1 (calledP rts i.2.1).2.1.length else []
theorem rawU_sorted (rts : List Rt) (i : Ins) : compact ((rawU rts i).mergeSort leI) = usesP rts i := by
  unfold rawU usesP
  split
  · rw [List.mergeSort_singleton, compact_one]
  · split
    · rw [sort_two, compact_two]
      by_cases h : i.2.2.1 = i.2.2.2.1
      · rw [if_pos h, if_pos (by omega), ← h]; simp
      · rw [if_neg h, if_neg (by omega)]
    · split
      · rw [List.mergeSort_singleton, compact_one]
      · split
        · rw [sort_run, compact_run]
        · rw [List.mergeSort_nil]; rfl
end Go.Z.Asm
namespace Go.Proofs.YtcnfcoojmbjdlaaGreatDoor
set_option maxRecDepth 8000
set_option linter.unusedVariables false
set_option linter.unusedSimpArgs false
set_option linter.unusedSectionVars false
open Go Go.Z Go.Z.Asm Go.Sort

theorem sort_ok {ρ : Nat → Obj → Prop} (a : Option Addr) (cap : Nat) (l : List Int) (hl : l.length < 4611686018427387904) : Con Tryz.prog ρ 38 #[.slice a l.length cap] [OwnSl 3 1 a l.length cap (l.map encI)]
    (fun v H => v = .tuple #[] ∧ H = [OwnSl 3 1 a l.length cap ((l.mergeSort leI).map encI)]) :=
  ⟨Tryz.call38, fun w hp sa su r => by
    rcases Nat.eq_zero_or_pos l.length with h0 | h0
    · have hn : l = [] := List.eq_nil_of_length_eq_zero h0
      subst hn
      exact Calls.mono (show Calls Tryz.prog 38 #[.slice a 0 cap] w _ from Any.slices_Sort_int_none lays189 a cap w) fun e w' ⟨e1, e2⟩ => ⟨_, _, e1, ⟨rfl, rfl⟩, by subst e2; rw [List.mergeSort_nil]; exact ms_same sa su r⟩
    · obtain ⟨_, g, cur, rfl, k1, k2, k3, k4, rfl⟩ := sat_own sa h0
      have hw := su g _ one_self
      have hH : Go.Sort.Holds (Value.int .i64) w g 0 l.toArray := holds_blk (Value.int .i64) hw l (by rw [Nat.mul_one] at k4; exact k4)
      refine Calls.mono (show Calls Tryz.prog 38 #[.slice (some ⟨g, 0, none⟩) l.length cap] w _ from Any.slices_Sort_int lays189 g 0 cap l w hH (lt_of_heap hw) hl) fun e w' ⟨e1, n, os, e2⟩ => ⟨_, _, e1, ⟨rfl, rfl⟩, ?_⟩
      have hms := ms_row (k' := l.length) hw r k3 k2 (l.mergeSort leI) (by rw [List.length_mergeSort]; exact k1) (by rw [List.length_mergeSort]; exact Nat.le_refl _) n os
      rw [List.take_of_length_le (by rw [List.length_mergeSort]; exact Nat.le_refl _)] at hms
      subst e2
      exact hms⟩
theorem compact_ok {ρ : Nat → Obj → Prop} (a : Option Addr) (cap : Nat) (l : List Int) (hl : l.length ≤ 9223372036854775807) : Con Tryz.prog ρ 39 #[.slice a l.length cap] [OwnSl 3 1 a l.length cap (l.map encI)]
    (fun v H => v = .slice a (Lib.compact l).length cap ∧ H = [OwnSl 3 1 a (Lib.compact l).length cap ((Lib.compact l).map encI)]) :=
  ⟨Tryz.call39, fun w hp sa su r => by
    rcases Nat.eq_zero_or_pos l.length with h0 | h0
    · have hn : l = [] := List.eq_nil_of_length_eq_zero h0
      subst hn
      exact Calls.mono (show Calls Tryz.prog 39 #[.slice a 0 cap] w _ from Any.slices_Compact_int_empty laysNm220 a cap w) fun e w' ⟨e1, e2⟩ => ⟨_, _, e1, ⟨rfl, rfl⟩, by subst e2; exact ms_same sa su r⟩
    · obtain ⟨_, g, cur, rfl, k1, k2, k3, k4, rfl⟩ := sat_own sa h0
      have hw := su g _ one_self
      have hle := Lib.compact_length_le l
      have hH : Go.Sort.Holds (Value.int .i64) w g 0 l.toArray := holds_blk (Value.int .i64) hw l (by rw [Nat.mul_one] at k4; exact k4)
      refine Calls.mono (show Calls Tryz.prog 39 #[.slice (some ⟨g, 0, none⟩) l.length cap] w _ from Any.slices_Compact_int laysNm220 g 0 cap l w hH hl k1) fun e w' ⟨e1, q, e2⟩ => ⟨_, _, e1, ⟨rfl, rfl⟩, ?_⟩
      have hms := ms_row (k' := (Lib.compact l).length) hw r k3 k2 (Lib.compact l ++ List.replicate (l.length - (Lib.compact l).length) 0) (by rw [List.length_append, List.length_replicate]; omega) (by rw [List.length_append]; omega) q #[]
      rw [List.take_left, grow_empty] at hms
      subst e2
      exact hms⟩

theorem run_ok {ρ : Nat → Obj → Prop} (a : Int) (n : Nat) (ha : -4611686018427387904 ≤ a ∧ a ≤ 4611686018427387904) (hn : n ≤ 17592186044416) : Con Tryz.prog ρ 36 #[.int .i64 a, .int .i64 n] []
    (fun v H => ∃ b c, v = .slice b (runP a n).length c ∧ H = [OwnSl 3 1 b (runP a n).length c ((runP a n).map encI)]) := by
  obtain ⟨ha1, ha2⟩ := ha
  refine con_intro Tryz.func36 Tryz.call36 rfl Tryz.ntmps36 rfl (L := [(0, _), (1, _)]) rfl fun w hh => ?_
  refine g_seq ?_
  refine g_region ?_
  refine g_pure (p_assign rfl) rfl ?_
  refine g_nil ?_
  refine g_qt ?_
  refine g_seq ?_
  refine g_region ?_
  refine g_pure (p_assign rfl) rfl ?_
  refine g_nil ?_
  refine g_qt ?_
  refine g_seq ?_
  refine g_seq ?_
  refine g_region ?_
  refine g_pure (p_move rfl) rfl ?_
  refine g_pure (p_move rfl) rfl ?_
  refine g_nil ?_
  refine g_qt ?_
  refine g_block ?_
  refine g_ownnil (e := 3) (size := 1) ?_
  refine g_loop (fun q : Nat × Option Addr × Nat => [(0, .int .i64 a), (5, .slice q.2.1 (runP a q.1).length q.2.2), (7, .int .i64 n), (8, .int .i64 q.1)])
    (fun q => [OwnSl 3 1 q.2.1 (runP a q.1).length q.2.2 ((runP a q.1).map encI)]) (fun q => q.1 ≤ n) (fun q => n - q.1) (0, none, 0) (Nat.zero_le _) (by (repeat (first | exact trivial | refine ⟨by rfl, ?_⟩)); done) (by repeat' (first | exact Cover.nil | exact Take.here | apply Cover.cons | apply Take.there)) ?_
  rintro ⟨k, oa, oc⟩ hk1
  dsimp only at hk1 ⊢
  have hrl := runP_len a k
  refine g_seq ?_
  refine g_region ?_
  refine g_pure (p_lss rfl rfl) rfl ?_
  refine g_nil ?_
  refine g_qt ?_
  refine g_seq ?_
  refine g_ifd rfl (fun q => ?_) (fun q => ?_)
  · have hst := runP_step a k
    refine g_skip ?_
    refine g_qt ?_
    refine g_seq ?_
    refine g_block ?_
    refine g_seq ?_
    refine g_region ?_
    refine g_pure (p_move rfl) rfl ?_
    refine g_pure (p_assign rfl) rfl ?_
    refine g_nil ?_
    refine g_qt ?_
    refine g_region ?_
    refine g_pure (p_move rfl) rfl ?_
    refine g_pure (p_move rfl) rfl ?_
    refine g_pure (p_move rfl) rfl ?_
    first | refine g_pure (p_addi rfl rfl (by omega)) rfl ?_ | refine g_pure (p_add rfl rfl) rfl ?_
    refine g_eff (e_bs (xs := [.tmp 14]) rfl rfl rfl (by rfl) (by rfl) rfl (by rfl)) rfl (fun _ _ => ?_)
    rintro ⟨b15, rfl, rfl⟩
    refine g_eff (e_appendO (by rfl) (by rfl) rfl rfl (by first | (apply Has.own; (repeat' (first | exact Take.here | apply Take.there)); done) | exact Has.ro (by assumption)) (by rfl) (by rfl) (by repeat' (first | exact Take.here | apply Take.there)) (by omega) (by first | omega | (dsimp only; omega) | (simp <;> omega)) (by omega)) rfl (fun _ _ => ?_)
    rintro ⟨a16, c16, rfl, rfl⟩
    refine g_pure (p_assign rfl) rfl ?_
    refine g_nil ?_
    refine g_qb ?_
    refine g_qt ?_
    refine g_region ?_
    first | refine g_pure (p_addi rfl rfl (by omega)) rfl ?_ | refine g_pure (p_add rfl rfl) rfl ?_
    refine g_pure (p_move rfl) rfl ?_
    refine g_nil ?_
    refine g_qn ?_
    rw [show (runP a k).map encI ++ [Value.int IntKind.i64 (a + k)] = (runP a (k + 1)).map encI by rw [hst, List.map_append]; rfl, show (runP a k).length + 1 = (runP a (k + 1)).length by rw [hst, List.length_append]; rfl]
    exact g_next (k + 1, a16, c16) (by (repeat (first | exact trivial | refine ⟨by rfl, ?_⟩)); done) (by repeat' (first | exact Cover.nil | exact Take.here | apply Cover.cons | apply Take.there)) (by dsimp only; omega) (by dsimp only; omega)
  · have hke : k = n := by omega
    subst hke
    refine g_exit ?_
    refine g_qt_exit ?_
    refine g_qn_exit ?_
    refine g_qb_exit ?_
    refine g_qt ?_
    refine g_seq ?_
    refine g_region ?_
    refine g_pure (p_move rfl) rfl ?_
    refine g_pure (p_assign rfl) rfl ?_
    refine g_nil ?_
    refine g_qt ?_
    refine g_ret ?_
    exact g_post (rs := [.tmp 4]) rfl (.tmp rfl .nil) ⟨oa, oc, rfl, rfl⟩ (by repeat' (first | exact Cover.nil | exact Take.here | apply Cover.cons | apply Take.there))
end Go.Proofs.YtcnfcoojmbjdlaaGreatDoor
/- Chapter 26: what an instruction reads and writes. Conditions: none. -/
namespace Go.Z.Asm
set_option maxRecDepth 8000
set_option linter.unusedVariables false
set_option linter.unusedSimpArgs false
set_option linter.unusedSectionVars false
open Go Go.Z Go.Lib
def bigI (x : Int) : Prop := -4611686018427387904 ≤ x ∧ x ≤ 4611686018427387904
end Go.Z.Asm
namespace Go.Proofs.YtcnfcoojmbjdlaaGreatDoor
set_option maxRecDepth 8000
set_option linter.unusedVariables false
set_option linter.unusedSimpArgs false
set_option linter.unusedSectionVars false
open Go Go.Z Go.Z.Asm

theorem rawU_len {rts : List Rt} (h : ∀ x ∈ rts, RtOk x) (i : Ins) : (rawU rts i).length ≤ 17592186044416 := by
  have := (calledP_len h i.2.1).il
  unfold rawU
  split
  · simp
  · split
    · simp
    · split
      · simp
      · split
        · rw [runP_len]; exact this
        · simp
theorem usesA_ok {ρ : Nat → Obj → Prop} {ea ra : Option Addr} {ec rc : Nat} {im : Im} (h : ImI ρ ea ra im) (i : Ins) (hi : bigI i.2.2.2.1) :
    Con Tryz.prog ρ 17 #[.agg #[.slice ea im.1.length ec, .slice ra im.2.length rc], .agg (encIns i).toArray] []
    (fun v H => ∃ a c, v = .slice a (usesP im.2 i).length c ∧ H = [OwnSl 3 1 a (usesP im.2 i).length c ((usesP im.2 i).map encI)]) := by
  obtain ⟨hi1, hi2⟩ := id hi
  have hl := rawU_len h.ok i
  have hcok := calledP_len h.ok i.2.1
  have hcil := hcok.il
  obtain ⟨y, hy⟩ : ∃ y, calledP im.2 i.2.1 = y := ⟨_, rfl⟩
  rw [← rawU_sorted]
  have hR : rawU im.2 i = if i.1 = 2 ∨ i.1 = 4 ∨ i.1 = 5 then [i.2.2.1] else if i.1 = 6 then [i.2.2.1, i.2.2.2.1] else if i.1 = 8 then [i.2.1] else if i.1 = 9 then runP i.2.2.2.1 y.2.1.length else [] := by unfold rawU; rw [hy]
  rw [hy] at hcil
  generalize rawU im.2 i = R at hR hl ⊢
  refine con_intro Tryz.func17 Tryz.call17 rfl Tryz.ntmps17 rfl (L := [(0, _), (1, _)]) rfl fun w hh => ?_
  refine g_seq ?_
  refine g_region ?_
  refine g_eff (e_box rfl (by rfl)) rfl (fun _ _ => ?_)
  rintro ⟨b2, rfl, rfl⟩
  refine g_eff (e_box rfl (by rfl)) rfl (fun _ _ => ?_)
  rintro ⟨b3, rfl, rfl⟩
  refine g_pure (p_assign rfl) rfl ?_
  refine g_nil ?_
  refine g_qt ?_
  refine g_seq ?_
  refine g_region ?_
  refine g_pure (p_assign rfl) rfl ?_
  refine g_nil ?_
  refine g_qt ?_
  refine g_seq ?_
  refine g_seq ?_
  refine g_region ?_
  refine g_pure (p_fieldAddr rfl) rfl ?_
  refine g_pure (p_load (by rfl) rfl (by first | (apply Has.own; (repeat' (first | exact Take.here | apply Take.there)); done) | exact Has.ro (by assumption)) (by first | rfl | assumption)) rfl ?_
  refine g_nil ?_
  refine g_qt ?_
  refine g_join (fun q : Option Addr × Nat => [(5, .slice q.1 R.length q.2)]) (fun q => [OwnSl 3 1 q.1 R.length q.2 (R.map encI)]) (fun _ => True) ?_ ?_
  · refine g_block ?_
    refine g_seq ?_
    refine g_seq ?_
    refine g_region ?_
    refine g_pure (p_eql rfl rfl) rfl ?_
    refine g_pure (p_assign rfl) rfl ?_
    refine g_nil ?_
    refine g_qt ?_
    refine g_ifdL rfl (fun h1 => ?_) (fun h1 => ?_)
    · refine g_skip ?_
      refine g_qt ?_
      refine g_ift rfl ?_
      refine g_region ?_
      refine g_pure (p_fieldAddr rfl) rfl ?_
      refine g_pure (p_load (by rfl) rfl (by first | (apply Has.own; (repeat' (first | exact Take.here | apply Take.there)); done) | exact Has.ro (by assumption)) (by first | rfl | assumption)) rfl ?_
      refine g_eff (e_bs (xs := [.tmp 13]) rfl rfl rfl (by rfl) (by rfl) rfl (by rfl)) rfl (fun _ _ => ?_)
      rintro ⟨b14, rfl, rfl⟩
      refine g_pure (p_assign rfl) rfl ?_
      refine g_nil ?_
      refine g_qb ?_
      refine g_qn ?_
      first | (obtain rfl : R = [i.2.2.1] := hR.trans (if_pos (by omega)); refine g_fold (e := 3) (size := 1) (g := b14) (k := 1) (cap := 1) (cur := [.int .i64 i.2.2.1]) (xs := ([i.2.2.1] : List Int).map encI) (by repeat' (first | exact Take.here | apply Take.there)) (by decide) (by decide) rfl rfl ?_; exact g_joined (some ⟨b14, 0, none⟩, 1) (by (repeat (first | exact trivial | refine ⟨by rfl, ?_⟩)); done) (by repeat' (first | exact Cover.nil | exact Take.here | apply Cover.cons | apply Take.there)) trivial) | (obtain rfl : R = [i.2.2.1, i.2.2.2.1] := hR.trans ((if_neg (by omega)).trans (if_pos (by omega))); refine g_fold (e := 3) (size := 1) (g := b21) (k := 2) (cap := 2) (cur := [.int .i64 i.2.2.1, .int .i64 i.2.2.2.1]) (xs := ([i.2.2.1, i.2.2.2.1] : List Int).map encI) (by repeat' (first | exact Take.here | apply Take.there)) (by decide) (by decide) rfl rfl ?_; exact g_joined (some ⟨b21, 0, none⟩, 2) (by (repeat (first | exact trivial | refine ⟨by rfl, ?_⟩)); done) (by repeat' (first | exact Cover.nil | exact Take.here | apply Cover.cons | apply Take.there)) trivial) | (obtain rfl : R = [i.2.1] := hR.trans ((if_neg (by omega)).trans ((if_neg (by omega)).trans (if_pos (by omega)))); refine g_fold (e := 3) (size := 1) (g := b26) (k := 1) (cap := 1) (cur := [.int .i64 i.2.1]) (xs := ([i.2.1] : List Int).map encI) (by repeat' (first | exact Take.here | apply Take.there)) (by decide) (by decide) rfl rfl ?_; exact g_joined (some ⟨b26, 0, none⟩, 1) (by (repeat (first | exact trivial | refine ⟨by rfl, ?_⟩)); done) (by repeat' (first | exact Cover.nil | exact Take.here | apply Cover.cons | apply Take.there)) trivial) | (obtain rfl : R = runP i.2.2.2.1 y.2.1.length := hR.trans ((if_neg (by omega)).trans ((if_neg (by omega)).trans ((if_neg (by omega)).trans (if_pos (by omega))))); exact g_joined (b37, c37) (by (repeat (first | exact trivial | refine ⟨by rfl, ?_⟩)); done) (by repeat' (first | exact Cover.nil | exact Take.here | apply Cover.cons | apply Take.there)) trivial) | (obtain rfl : R = [] := hR.trans ((if_neg (by omega)).trans ((if_neg (by omega)).trans ((if_neg (by omega)).trans (if_neg (by omega))))); refine g_ownnil (e := 3) (size := 1) ?_; exact g_joined (none, 0) (by (repeat (first | exact trivial | refine ⟨by rfl, ?_⟩)); done) (by repeat' (first | exact Cover.nil | exact Take.here | apply Cover.cons | apply Take.there)) trivial) | (exfalso; omega)
    · refine g_seq ?_
      refine g_region ?_
      refine g_pure (p_eql rfl rfl) rfl ?_
      refine g_pure (p_assign rfl) rfl ?_
      refine g_nil ?_
      refine g_qt ?_
      refine g_ifdL rfl (fun h3 => ?_) (fun h3 => ?_)
      · refine g_skip ?_
        refine g_qt ?_
        refine g_ift rfl ?_
        refine g_region ?_
        refine g_pure (p_fieldAddr rfl) rfl ?_
        refine g_pure (p_load (by rfl) rfl (by first | (apply Has.own; (repeat' (first | exact Take.here | apply Take.there)); done) | exact Has.ro (by assumption)) (by first | rfl | assumption)) rfl ?_
        refine g_eff (e_bs (xs := [.tmp 13]) rfl rfl rfl (by rfl) (by rfl) rfl (by rfl)) rfl (fun _ _ => ?_)
        rintro ⟨b14, rfl, rfl⟩
        refine g_pure (p_assign rfl) rfl ?_
        refine g_nil ?_
        refine g_qb ?_
        refine g_qn ?_
        first | (obtain rfl : R = [i.2.2.1] := hR.trans (if_pos (by omega)); refine g_fold (e := 3) (size := 1) (g := b14) (k := 1) (cap := 1) (cur := [.int .i64 i.2.2.1]) (xs := ([i.2.2.1] : List Int).map encI) (by repeat' (first | exact Take.here | apply Take.there)) (by decide) (by decide) rfl rfl ?_; exact g_joined (some ⟨b14, 0, none⟩, 1) (by (repeat (first | exact trivial | refine ⟨by rfl, ?_⟩)); done) (by repeat' (first | exact Cover.nil | exact Take.here | apply Cover.cons | apply Take.there)) trivial) | (obtain rfl : R = [i.2.2.1, i.2.2.2.1] := hR.trans ((if_neg (by omega)).trans (if_pos (by omega))); refine g_fold (e := 3) (size := 1) (g := b21) (k := 2) (cap := 2) (cur := [.int .i64 i.2.2.1, .int .i64 i.2.2.2.1]) (xs := ([i.2.2.1, i.2.2.2.1] : List Int).map encI) (by repeat' (first | exact Take.here | apply Take.there)) (by decide) (by decide) rfl rfl ?_; exact g_joined (some ⟨b21, 0, none⟩, 2) (by (repeat (first | exact trivial | refine ⟨by rfl, ?_⟩)); done) (by repeat' (first | exact Cover.nil | exact Take.here | apply Cover.cons | apply Take.there)) trivial) | (obtain rfl : R = [i.2.1] := hR.trans ((if_neg (by omega)).trans ((if_neg (by omega)).trans (if_pos (by omega)))); refine g_fold (e := 3) (size := 1) (g := b26) (k := 1) (cap := 1) (cur := [.int .i64 i.2.1]) (xs := ([i.2.1] : List Int).map encI) (by repeat' (first | exact Take.here | apply Take.there)) (by decide) (by decide) rfl rfl ?_; exact g_joined (some ⟨b26, 0, none⟩, 1) (by (repeat (first | exact trivial | refine ⟨by rfl, ?_⟩)); done) (by repeat' (first | exact Cover.nil | exact Take.here | apply Cover.cons | apply Take.there)) trivial) | (obtain rfl : R = runP i.2.2.2.1 y.2.1.length := hR.trans ((if_neg (by omega)).trans ((if_neg (by omega)).trans ((if_neg (by omega)).trans (if_pos (by omega))))); exact g_joined (b37, c37) (by (repeat (first | exact trivial | refine ⟨by rfl, ?_⟩)); done) (by repeat' (first | exact Cover.nil | exact Take.here | apply Cover.cons | apply Take.there)) trivial) | (obtain rfl : R = [] := hR.trans ((if_neg (by omega)).trans ((if_neg (by omega)).trans ((if_neg (by omega)).trans (if_neg (by omega))))); refine g_ownnil (e := 3) (size := 1) ?_; exact g_joined (none, 0) (by (repeat (first | exact trivial | refine ⟨by rfl, ?_⟩)); done) (by repeat' (first | exact Cover.nil | exact Take.here | apply Cover.cons | apply Take.there)) trivial) | (exfalso; omega)
      · refine g_region ?_
        refine g_pure (p_eql rfl rfl) rfl ?_
        refine g_pure (p_assign rfl) rfl ?_
        refine g_nil ?_
        refine g_qt ?_
        refine g_ifdL rfl (fun h5 => ?_) (fun h5 => ?_)
        · refine g_region ?_
          refine g_pure (p_fieldAddr rfl) rfl ?_
          refine g_pure (p_load (by rfl) rfl (by first | (apply Has.own; (repeat' (first | exact Take.here | apply Take.there)); done) | exact Has.ro (by assumption)) (by first | rfl | assumption)) rfl ?_
          refine g_eff (e_bs (xs := [.tmp 13]) rfl rfl rfl (by rfl) (by rfl) rfl (by rfl)) rfl (fun _ _ => ?_)
          rintro ⟨b14, rfl, rfl⟩
          refine g_pure (p_assign rfl) rfl ?_
          refine g_nil ?_
          refine g_qb ?_
          refine g_qn ?_
          first | (obtain rfl : R = [i.2.2.1] := hR.trans (if_pos (by omega)); refine g_fold (e := 3) (size := 1) (g := b14) (k := 1) (cap := 1) (cur := [.int .i64 i.2.2.1]) (xs := ([i.2.2.1] : List Int).map encI) (by repeat' (first | exact Take.here | apply Take.there)) (by decide) (by decide) rfl rfl ?_; exact g_joined (some ⟨b14, 0, none⟩, 1) (by (repeat (first | exact trivial | refine ⟨by rfl, ?_⟩)); done) (by repeat' (first | exact Cover.nil | exact Take.here | apply Cover.cons | apply Take.there)) trivial) | (obtain rfl : R = [i.2.2.1, i.2.2.2.1] := hR.trans ((if_neg (by omega)).trans (if_pos (by omega))); refine g_fold (e := 3) (size := 1) (g := b21) (k := 2) (cap := 2) (cur := [.int .i64 i.2.2.1, .int .i64 i.2.2.2.1]) (xs := ([i.2.2.1, i.2.2.2.1] : List Int).map encI) (by repeat' (first | exact Take.here | apply Take.there)) (by decide) (by decide) rfl rfl ?_; exact g_joined (some ⟨b21, 0, none⟩, 2) (by (repeat (first | exact trivial | refine ⟨by rfl, ?_⟩)); done) (by repeat' (first | exact Cover.nil | exact Take.here | apply Cover.cons | apply Take.there)) trivial) | (obtain rfl : R = [i.2.1] := hR.trans ((if_neg (by omega)).trans ((if_neg (by omega)).trans (if_pos (by omega)))); refine g_fold (e := 3) (size := 1) (g := b26) (k := 1) (cap := 1) (cur := [.int .i64 i.2.1]) (xs := ([i.2.1] : List Int).map encI) (by repeat' (first | exact Take.here | apply Take.there)) (by decide) (by decide) rfl rfl ?_; exact g_joined (some ⟨b26, 0, none⟩, 1) (by (repeat (first | exact trivial | refine ⟨by rfl, ?_⟩)); done) (by repeat' (first | exact Cover.nil | exact Take.here | apply Cover.cons | apply Take.there)) trivial) | (obtain rfl : R = runP i.2.2.2.1 y.2.1.length := hR.trans ((if_neg (by omega)).trans ((if_neg (by omega)).trans ((if_neg (by omega)).trans (if_pos (by omega))))); exact g_joined (b37, c37) (by (repeat (first | exact trivial | refine ⟨by rfl, ?_⟩)); done) (by repeat' (first | exact Cover.nil | exact Take.here | apply Cover.cons | apply Take.there)) trivial) | (obtain rfl : R = [] := hR.trans ((if_neg (by omega)).trans ((if_neg (by omega)).trans ((if_neg (by omega)).trans (if_neg (by omega))))); refine g_ownnil (e := 3) (size := 1) ?_; exact g_joined (none, 0) (by (repeat (first | exact trivial | refine ⟨by rfl, ?_⟩)); done) (by repeat' (first | exact Cover.nil | exact Take.here | apply Cover.cons | apply Take.there)) trivial) | (exfalso; omega)
        · refine g_seq ?_
          refine g_region ?_
          refine g_pure (p_eql rfl rfl) rfl ?_
          refine g_pure (p_assign rfl) rfl ?_
          refine g_nil ?_
          refine g_qt ?_
          refine g_ifdL rfl (fun h6 => ?_) (fun h6 => ?_)
          · refine g_region ?_
            refine g_pure (p_fieldAddr rfl) rfl ?_
            refine g_pure (p_load (by rfl) rfl (by first | (apply Has.own; (repeat' (first | exact Take.here | apply Take.there)); done) | exact Has.ro (by assumption)) (by first | rfl | assumption)) rfl ?_
            refine g_pure (p_fieldAddr rfl) rfl ?_
            refine g_pure (p_load (by rfl) rfl (by first | (apply Has.own; (repeat' (first | exact Take.here | apply Take.there)); done) | exact Has.ro (by assumption)) (by first | rfl | assumption)) rfl ?_
            refine g_eff (e_bs (xs := [.tmp 18, .tmp 20]) rfl rfl rfl (by rfl) (by rfl) rfl (by rfl)) rfl (fun _ _ => ?_)
            rintro ⟨b21, rfl, rfl⟩
            refine g_pure (p_assign rfl) rfl ?_
            refine g_nil ?_
            refine g_qb ?_
            refine g_qn ?_
            first | (obtain rfl : R = [i.2.2.1] := hR.trans (if_pos (by omega)); refine g_fold (e := 3) (size := 1) (g := b14) (k := 1) (cap := 1) (cur := [.int .i64 i.2.2.1]) (xs := ([i.2.2.1] : List Int).map encI) (by repeat' (first | exact Take.here | apply Take.there)) (by decide) (by decide) rfl rfl ?_; exact g_joined (some ⟨b14, 0, none⟩, 1) (by (repeat (first | exact trivial | refine ⟨by rfl, ?_⟩)); done) (by repeat' (first | exact Cover.nil | exact Take.here | apply Cover.cons | apply Take.there)) trivial) | (obtain rfl : R = [i.2.2.1, i.2.2.2.1] := hR.trans ((if_neg (by omega)).trans (if_pos (by omega))); refine g_fold (e := 3) (size := 1) (g := b21) (k := 2) (cap := 2) (cur := [.int .i64 i.2.2.1, .int .i64 i.2.2.2.1]) (xs := ([i.2.2.1, i.2.2.2.1] : List Int).map encI) (by repeat' (first | exact Take.here | apply Take.there)) (by decide) (by decide) rfl rfl ?_; exact g_joined (some ⟨b21, 0, none⟩, 2) (by (repeat (first | exact trivial | refine ⟨by rfl, ?_⟩)); done) (by repeat' (first | exact Cover.nil | exact Take.here | apply Cover.cons | apply Take.there)) trivial) | (obtain rfl : R = [i.2.1] := hR.trans ((if_neg (by omega)).trans ((if_neg (by omega)).trans (if_pos (by omega)))); refine g_fold (e := 3) (size := 1) (g := b26) (k := 1) (cap := 1) (cur := [.int .i64 i.2.1]) (xs := ([i.2.1] : List Int).map encI) (by repeat' (first | exact Take.here | apply Take.there)) (by decide) (by decide) rfl rfl ?_; exact g_joined (some ⟨b26, 0, none⟩, 1) (by (repeat (first | exact trivial | refine ⟨by rfl, ?_⟩)); done) (by repeat' (first | exact Cover.nil | exact Take.here | apply Cover.cons | apply Take.there)) trivial) | (obtain rfl : R = runP i.2.2.2.1 y.2.1.length := hR.trans ((if_neg (by omega)).trans ((if_neg (by omega)).trans ((if_neg (by omega)).trans (if_pos (by omega))))); exact g_joined (b37, c37) (by (repeat (first | exact trivial | refine ⟨by rfl, ?_⟩)); done) (by repeat' (first | exact Cover.nil | exact Take.here | apply Cover.cons | apply Take.there)) trivial) | (obtain rfl : R = [] := hR.trans ((if_neg (by omega)).trans ((if_neg (by omega)).trans ((if_neg (by omega)).trans (if_neg (by omega))))); refine g_ownnil (e := 3) (size := 1) ?_; exact g_joined (none, 0) (by (repeat (first | exact trivial | refine ⟨by rfl, ?_⟩)); done) (by repeat' (first | exact Cover.nil | exact Take.here | apply Cover.cons | apply Take.there)) trivial) | (exfalso; omega)
          · refine g_seq ?_
            refine g_region ?_
            refine g_pure (p_eql rfl rfl) rfl ?_
            refine g_pure (p_assign rfl) rfl ?_
            refine g_nil ?_
            refine g_qt ?_
            refine g_ifdL rfl (fun h7 => ?_) (fun h7 => ?_)
            · refine g_region ?_
              refine g_pure (p_fieldAddr rfl) rfl ?_
              refine g_pure (p_load (by rfl) rfl (by first | (apply Has.own; (repeat' (first | exact Take.here | apply Take.there)); done) | exact Has.ro (by assumption)) (by first | rfl | assumption)) rfl ?_
              refine g_eff (e_bs (xs := [.tmp 25]) rfl rfl rfl (by rfl) (by rfl) rfl (by rfl)) rfl (fun _ _ => ?_)
              rintro ⟨b26, rfl, rfl⟩
              refine g_pure (p_assign rfl) rfl ?_
              refine g_nil ?_
              refine g_qb ?_
              refine g_qn ?_
              first | (obtain rfl : R = [i.2.2.1] := hR.trans (if_pos (by omega)); refine g_fold (e := 3) (size := 1) (g := b14) (k := 1) (cap := 1) (cur := [.int .i64 i.2.2.1]) (xs := ([i.2.2.1] : List Int).map encI) (by repeat' (first | exact Take.here | apply Take.there)) (by decide) (by decide) rfl rfl ?_; exact g_joined (some ⟨b14, 0, none⟩, 1) (by (repeat (first | exact trivial | refine ⟨by rfl, ?_⟩)); done) (by repeat' (first | exact Cover.nil | exact Take.here | apply Cover.cons | apply Take.there)) trivial) | (obtain rfl : R = [i.2.2.1, i.2.2.2.1] := hR.trans ((if_neg (by omega)).trans (if_pos (by omega))); refine g_fold (e := 3) (size := 1) (g := b21) (k := 2) (cap := 2) (cur := [.int .i64 i.2.2.1, .int .i64 i.2.2.2.1]) (xs := ([i.2.2.1, i.2.2.2.1] : List Int).map encI) (by repeat' (first | exact Take.here | apply Take.there)) (by decide) (by decide) rfl rfl ?_; exact g_joined (some ⟨b21, 0, none⟩, 2) (by (repeat (first | exact trivial | refine ⟨by rfl, ?_⟩)); done) (by repeat' (first | exact Cover.nil | exact Take.here | apply Cover.cons | apply Take.there)) trivial) | (obtain rfl : R = [i.2.1] := hR.trans ((if_neg (by omega)).trans ((if_neg (by omega)).trans (if_pos (by omega)))); refine g_fold (e := 3) (size := 1) (g := b26) (k := 1) (cap := 1) (cur := [.int .i64 i.2.1]) (xs := ([i.2.1] : List Int).map encI) (by repeat' (first | exact Take.here | apply Take.there)) (by decide) (by decide) rfl rfl ?_; exact g_joined (some ⟨b26, 0, none⟩, 1) (by (repeat (first | exact trivial | refine ⟨by rfl, ?_⟩)); done) (by repeat' (first | exact Cover.nil | exact Take.here | apply Cover.cons | apply Take.there)) trivial) | (obtain rfl : R = runP i.2.2.2.1 y.2.1.length := hR.trans ((if_neg (by omega)).trans ((if_neg (by omega)).trans ((if_neg (by omega)).trans (if_pos (by omega))))); exact g_joined (b37, c37) (by (repeat (first | exact trivial | refine ⟨by rfl, ?_⟩)); done) (by repeat' (first | exact Cover.nil | exact Take.here | apply Cover.cons | apply Take.there)) trivial) | (obtain rfl : R = [] := hR.trans ((if_neg (by omega)).trans ((if_neg (by omega)).trans ((if_neg (by omega)).trans (if_neg (by omega))))); refine g_ownnil (e := 3) (size := 1) ?_; exact g_joined (none, 0) (by (repeat (first | exact trivial | refine ⟨by rfl, ?_⟩)); done) (by repeat' (first | exact Cover.nil | exact Take.here | apply Cover.cons | apply Take.there)) trivial) | (exfalso; omega)
            · refine g_seq ?_
              refine g_region ?_
              refine g_pure (p_eql rfl rfl) rfl ?_
              refine g_pure (p_assign rfl) rfl ?_
              refine g_nil ?_
              refine g_qt ?_
              refine g_ifdL rfl (fun h8 => ?_) (fun h8 => ?_)
              · refine m_begin0 (.fl 0 0 (.fl 1 1 (.fl 2 1 (.fl 3 0 (.fl 4 1 (.ef 5 (.fl 6 0 (.fl 7 0 (.ef 8 (.fl 9 0 .done)))))))))) (by kernel_rfl) (by kernel_rfl) ?_
                refine m_float0 rfl (fun _ _ => p_fieldAddr rfl) rfl ?_
                refine m_float rfl (p_load (by rfl) rfl (by first | (apply Has.own; (repeat' (first | exact Take.here | apply Take.there)); done) | exact Has.ro (by assumption)) (by first | rfl | assumption)) rfl ?_
                first | refine m_float rfl (p_loadO (by rfl) rfl (by first | (apply Has.own; (repeat' (first | exact Take.here | apply Take.there)); done) | exact Has.ro (by assumption)) (by rfl)) rfl ?_ | refine m_float rfl (p_loadN (by rfl) rfl (by first | (apply Has.own; (repeat' (first | exact Take.here | apply Take.there)); done) | exact Has.ro (by assumption)) (by first | rfl | assumption)) rfl ?_
                refine m_float0 rfl (fun _ _ => p_fieldAddr rfl) rfl ?_
                refine m_float rfl (p_load (by rfl) rfl (by first | (apply Has.own; (repeat' (first | exact Take.here | apply Take.there)); done) | exact Has.ro (by assumption)) (by first | rfl | assumption)) rfl ?_
                refine m_call (Hin := []) (Hr := ?hr1) (R := ?rr1) rfl wantedN rfl rfl rfl ?hin1 ?hc1 ?hk1
                case hin1 => repeat' (first | exact Cover.nil | exact Take.here | apply Cover.cons | apply Take.there)
                case hc1 => intro ρ' hρ hR; exact called_at (ec := ec) (rc := rc) (h.mono hρ) i.2.1 hy
                rintro _ _ ⟨ja, jc, pa, pc, qa, qc, sa, sc, rfl, rfl⟩
                refine ⟨.some (by repeat' (first | exact Cover.nil | exact Take.here | apply Cover.cons | apply Take.there)), ?_⟩
                refine m_float0 rfl (fun _ _ => p_fieldV Tryz.underlying45 rfl ty22 rfl rfl rfl) rfl ?_
                refine m_float0 rfl (fun _ _ => p_len (by rfl) rfl) rfl ?_
                refine m_call (Hin := []) (Hr := ?hr2) (R := ?rr2) rfl wantedN rfl rfl rfl ?hin2 ?hc2 ?hk2
                case hin2 => repeat' (first | exact Cover.nil | exact Take.here | apply Cover.cons | apply Take.there)
                case hc2 => intro ρ' hρ hR; exact run_ok i.2.2.2.1 y.2.1.length hi hcil
                rintro _ _ ⟨b37, c37, rfl, rfl⟩
                refine ⟨.none (by kernel_rfl), ?_⟩
                refine m_float0 rfl (fun _ _ => p_assign rfl) rfl ?_
                refine m_nil ?_
                refine g_qb ?_
                refine g_qn ?_
                first | (obtain rfl : R = [i.2.2.1] := hR.trans (if_pos (by omega)); refine g_fold (e := 3) (size := 1) (g := b14) (k := 1) (cap := 1) (cur := [.int .i64 i.2.2.1]) (xs := ([i.2.2.1] : List Int).map encI) (by repeat' (first | exact Take.here | apply Take.there)) (by decide) (by decide) rfl rfl ?_; exact g_joined (some ⟨b14, 0, none⟩, 1) (by (repeat (first | exact trivial | refine ⟨by rfl, ?_⟩)); done) (by repeat' (first | exact Cover.nil | exact Take.here | apply Cover.cons | apply Take.there)) trivial) | (obtain rfl : R = [i.2.2.1, i.2.2.2.1] := hR.trans ((if_neg (by omega)).trans (if_pos (by omega))); refine g_fold (e := 3) (size := 1) (g := b21) (k := 2) (cap := 2) (cur := [.int .i64 i.2.2.1, .int .i64 i.2.2.2.1]) (xs := ([i.2.2.1, i.2.2.2.1] : List Int).map encI) (by repeat' (first | exact Take.here | apply Take.there)) (by decide) (by decide) rfl rfl ?_; exact g_joined (some ⟨b21, 0, none⟩, 2) (by (repeat (first | exact trivial | refine ⟨by rfl, ?_⟩)); done) (by repeat' (first | exact Cover.nil | exact Take.here | apply Cover.cons | apply Take.there)) trivial) | (obtain rfl : R = [i.2.1] := hR.trans ((if_neg (by omega)).trans ((if_neg (by omega)).trans (if_pos (by omega)))); refine g_fold (e := 3) (size := 1) (g := b26) (k := 1) (cap := 1) (cur := [.int .i64 i.2.1]) (xs := ([i.2.1] : List Int).map encI) (by repeat' (first | exact Take.here | apply Take.there)) (by decide) (by decide) rfl rfl ?_; exact g_joined (some ⟨b26, 0, none⟩, 1) (by (repeat (first | exact trivial | refine ⟨by rfl, ?_⟩)); done) (by repeat' (first | exact Cover.nil | exact Take.here | apply Cover.cons | apply Take.there)) trivial) | (obtain rfl : R = runP i.2.2.2.1 y.2.1.length := hR.trans ((if_neg (by omega)).trans ((if_neg (by omega)).trans ((if_neg (by omega)).trans (if_pos (by omega))))); exact g_joined (b37, c37) (by (repeat (first | exact trivial | refine ⟨by rfl, ?_⟩)); done) (by repeat' (first | exact Cover.nil | exact Take.here | apply Cover.cons | apply Take.there)) trivial) | (obtain rfl : R = [] := hR.trans ((if_neg (by omega)).trans ((if_neg (by omega)).trans ((if_neg (by omega)).trans (if_neg (by omega))))); refine g_ownnil (e := 3) (size := 1) ?_; exact g_joined (none, 0) (by (repeat (first | exact trivial | refine ⟨by rfl, ?_⟩)); done) (by repeat' (first | exact Cover.nil | exact Take.here | apply Cover.cons | apply Take.there)) trivial) | (exfalso; omega)
              · refine g_skip ?_
                refine g_qb ?_
                refine g_qn ?_
                first | (obtain rfl : R = [i.2.2.1] := hR.trans (if_pos (by omega)); refine g_fold (e := 3) (size := 1) (g := b14) (k := 1) (cap := 1) (cur := [.int .i64 i.2.2.1]) (xs := ([i.2.2.1] : List Int).map encI) (by repeat' (first | exact Take.here | apply Take.there)) (by decide) (by decide) rfl rfl ?_; exact g_joined (some ⟨b14, 0, none⟩, 1) (by (repeat (first | exact trivial | refine ⟨by rfl, ?_⟩)); done) (by repeat' (first | exact Cover.nil | exact Take.here | apply Cover.cons | apply Take.there)) trivial) | (obtain rfl : R = [i.2.2.1, i.2.2.2.1] := hR.trans ((if_neg (by omega)).trans (if_pos (by omega))); refine g_fold (e := 3) (size := 1) (g := b21) (k := 2) (cap := 2) (cur := [.int .i64 i.2.2.1, .int .i64 i.2.2.2.1]) (xs := ([i.2.2.1, i.2.2.2.1] : List Int).map encI) (by repeat' (first | exact Take.here | apply Take.there)) (by decide) (by decide) rfl rfl ?_; exact g_joined (some ⟨b21, 0, none⟩, 2) (by (repeat (first | exact trivial | refine ⟨by rfl, ?_⟩)); done) (by repeat' (first | exact Cover.nil | exact Take.here | apply Cover.cons | apply Take.there)) trivial) | (obtain rfl : R = [i.2.1] := hR.trans ((if_neg (by omega)).trans ((if_neg (by omega)).trans (if_pos (by omega)))); refine g_fold (e := 3) (size := 1) (g := b26) (k := 1) (cap := 1) (cur := [.int .i64 i.2.1]) (xs := ([i.2.1] : List Int).map encI) (by repeat' (first | exact Take.here | apply Take.there)) (by decide) (by decide) rfl rfl ?_; exact g_joined (some ⟨b26, 0, none⟩, 1) (by (repeat (first | exact trivial | refine ⟨by rfl, ?_⟩)); done) (by repeat' (first | exact Cover.nil | exact Take.here | apply Cover.cons | apply Take.there)) trivial) | (obtain rfl : R = runP i.2.2.2.1 y.2.1.length := hR.trans ((if_neg (by omega)).trans ((if_neg (by omega)).trans ((if_neg (by omega)).trans (if_pos (by omega))))); exact g_joined (b37, c37) (by (repeat (first | exact trivial | refine ⟨by rfl, ?_⟩)); done) (by repeat' (first | exact Cover.nil | exact Take.here | apply Cover.cons | apply Take.there)) trivial) | (obtain rfl : R = [] := hR.trans ((if_neg (by omega)).trans ((if_neg (by omega)).trans ((if_neg (by omega)).trans (if_neg (by omega))))); refine g_ownnil (e := 3) (size := 1) ?_; exact g_joined (none, 0) (by (repeat (first | exact trivial | refine ⟨by rfl, ?_⟩)); done) (by repeat' (first | exact Cover.nil | exact Take.here | apply Cover.cons | apply Take.there)) trivial) | (exfalso; omega)
  rintro ⟨oa, oc⟩ _
  refine g_qt ?_
  refine g_seq ?_
  refine g_region ?_
  refine g_pure (p_move rfl) rfl ?_
  refine g_call (Hin := ?hi3) (Hr := ?hr3) (R := ?rr3) rfl rfl rfl ?hin3 ?hc3 ?hk3
  case hc3 => intro ρ' hρ hR; exact sort_ok oa oc R (by omega)
  case hin3 => repeat' (first | exact Cover.nil | exact Take.here | apply Cover.cons | apply Take.there)
  rintro _ _ ⟨rfl, rfl⟩
  have hsl : (R.mergeSort leI).length = R.length := List.length_mergeSort ..
  rw [← hsl]
  refine g_nil ?_
  refine g_qt ?_
  refine g_seq ?_
  refine g_region ?_
  refine g_pure (p_move rfl) rfl ?_
  refine g_call (Hin := ?hi4) (Hr := ?hr4) (R := ?rr4) rfl rfl rfl ?hin4 ?hc4 ?hk4
  case hc4 => intro ρ' hρ hR; exact compact_ok oa oc (R.mergeSort leI) (by omega)
  case hin4 => repeat' (first | exact Cover.nil | exact Take.here | apply Cover.cons | apply Take.there)
  rintro _ _ ⟨rfl, rfl⟩
  refine g_pure (p_assign rfl) rfl ?_
  refine g_nil ?_
  refine g_qt ?_
  refine g_ret ?_
  exact g_post (rs := [.tmp 4]) rfl (.tmp rfl .nil) ⟨oa, oc, rfl, rfl⟩ (by repeat' (first | exact Cover.nil | exact Take.here | apply Cover.cons | apply Take.there))
theorem setsA_ok {ρ : Nat → Obj → Prop} {ea ra : Option Addr} {ec rc : Nat} {im : Im} (h : ImI ρ ea ra im) (i : Ins) (hi : bigI i.2.2.2.2) :
    Con Tryz.prog ρ 19 #[.agg #[.slice ea im.1.length ec, .slice ra im.2.length rc], .agg (encIns i).toArray] []
    (fun v H => ∃ a c, v = .slice a (setsP im.2 i).length c ∧ H = [OwnSl 3 1 a (setsP im.2 i).length c ((setsP im.2 i).map encI)]) := by
  have hcok := calledP_len h.ok i.2.1
  have hcol := hcok.ol
  obtain ⟨y, hy⟩ : ∃ y, calledP im.2 i.2.1 = y := ⟨_, rfl⟩
  rw [hy] at hcol
  have hR : setsP im.2 i = if i.1 = 1 ∨ i.1 = 2 ∨ i.1 = 3 ∨ i.1 = 5 ∨ i.1 = 6 then [i.2.1] else if i.1 = 9 then runP i.2.2.2.2 y.2.2.1.length else [] := by unfold setsP; rw [hy]
  generalize setsP im.2 i = R at hR ⊢
  refine con_intro Tryz.func19 Tryz.call19 rfl Tryz.ntmps19 rfl (L := [(0, _), (1, _)]) rfl fun w hh => ?_
  refine g_seq ?_
  refine g_region ?_
  refine g_eff (e_box rfl (by rfl)) rfl (fun _ _ => ?_)
  rintro ⟨b2, rfl, rfl⟩
  refine g_eff (e_box rfl (by rfl)) rfl (fun _ _ => ?_)
  rintro ⟨b3, rfl, rfl⟩
  refine g_pure (p_assign rfl) rfl ?_
  refine g_nil ?_
  refine g_qt ?_
  refine g_seq ?_
  refine g_seq ?_
  refine g_region ?_
  refine g_pure (p_fieldAddr rfl) rfl ?_
  refine g_pure (p_load (by rfl) rfl (by first | (apply Has.own; (repeat' (first | exact Take.here | apply Take.there)); done) | exact Has.ro (by assumption)) (by first | rfl | assumption)) rfl ?_
  refine g_nil ?_
  refine g_qt ?_
  refine g_block ?_
  refine g_seq ?_
  refine g_seq ?_
  refine g_region ?_
  refine g_pure (p_eql rfl rfl) rfl ?_
  refine g_pure (p_assign rfl) rfl ?_
  refine g_nil ?_
  refine g_qt ?_
  refine g_ifdL rfl (fun h1 => ?_) (fun h1 => ?_)
  · refine g_skip ?_
    refine g_qt ?_
    refine g_ift rfl ?_
    refine g_seq ?_
    refine g_region ?_
    refine g_pure (p_fieldAddr rfl) rfl ?_
    refine g_pure (p_load (by rfl) rfl (by first | (apply Has.own; (repeat' (first | exact Take.here | apply Take.there)); done) | exact Has.ro (by assumption)) (by first | rfl | assumption)) rfl ?_
    refine g_eff (e_bs (xs := [.tmp 14]) rfl rfl rfl (by rfl) (by rfl) rfl (by rfl)) rfl (fun _ _ => ?_)
    rintro ⟨b15, rfl, rfl⟩
    refine g_pure (p_assign rfl) rfl ?_
    refine g_nil ?_
    refine g_qt ?_
    refine g_ret ?_
    refine g_qb_ret ?_
    refine g_qt_ret ?_
    first | (obtain rfl : R = [i.2.1] := hR.trans (if_pos (by omega)); refine g_fold (e := 3) (size := 1) (g := b15) (k := 1) (cap := 1) (cur := [.int .i64 i.2.1]) (xs := ([i.2.1] : List Int).map encI) (by repeat' (first | exact Take.here | apply Take.there)) (by decide) (by decide) rfl rfl ?_; exact g_post (rs := [.tmp 4]) rfl (.tmp rfl .nil) ⟨some ⟨b15, 0, none⟩, 1, rfl, rfl⟩ (by repeat' (first | exact Cover.nil | exact Take.here | apply Cover.cons | apply Take.there))) | (obtain rfl : R = runP i.2.2.2.2 y.2.2.1.length := hR.trans ((if_neg (by omega)).trans (if_pos (by omega))); exact g_post (rs := [.tmp 4]) rfl (.tmp rfl .nil) ⟨b26, c26, rfl, rfl⟩ (by repeat' (first | exact Cover.nil | exact Take.here | apply Cover.cons | apply Take.there))) | (obtain rfl : R = [] := hR.trans ((if_neg (by omega)).trans (if_neg (by omega))); refine g_ownnil (e := 3) (size := 1) ?_; exact g_post (rs := [.tmp 4]) rfl (.tmp rfl .nil) ⟨none, 0, rfl, rfl⟩ (by repeat' (first | exact Cover.nil | exact Take.here | apply Cover.cons | apply Take.there))) | (exfalso; omega)
  · refine g_seq ?_
    refine g_region ?_
    refine g_pure (p_eql rfl rfl) rfl ?_
    refine g_pure (p_assign rfl) rfl ?_
    refine g_nil ?_
    refine g_qt ?_
    refine g_ifdL rfl (fun h3 => ?_) (fun h3 => ?_)
    · refine g_skip ?_
      refine g_qt ?_
      refine g_ift rfl ?_
      refine g_seq ?_
      refine g_region ?_
      refine g_pure (p_fieldAddr rfl) rfl ?_
      refine g_pure (p_load (by rfl) rfl (by first | (apply Has.own; (repeat' (first | exact Take.here | apply Take.there)); done) | exact Has.ro (by assumption)) (by first | rfl | assumption)) rfl ?_
      refine g_eff (e_bs (xs := [.tmp 14]) rfl rfl rfl (by rfl) (by rfl) rfl (by rfl)) rfl (fun _ _ => ?_)
      rintro ⟨b15, rfl, rfl⟩
      refine g_pure (p_assign rfl) rfl ?_
      refine g_nil ?_
      refine g_qt ?_
      refine g_ret ?_
      refine g_qb_ret ?_
      refine g_qt_ret ?_
      first | (obtain rfl : R = [i.2.1] := hR.trans (if_pos (by omega)); refine g_fold (e := 3) (size := 1) (g := b15) (k := 1) (cap := 1) (cur := [.int .i64 i.2.1]) (xs := ([i.2.1] : List Int).map encI) (by repeat' (first | exact Take.here | apply Take.there)) (by decide) (by decide) rfl rfl ?_; exact g_post (rs := [.tmp 4]) rfl (.tmp rfl .nil) ⟨some ⟨b15, 0, none⟩, 1, rfl, rfl⟩ (by repeat' (first | exact Cover.nil | exact Take.here | apply Cover.cons | apply Take.there))) | (obtain rfl : R = runP i.2.2.2.2 y.2.2.1.length := hR.trans ((if_neg (by omega)).trans (if_pos (by omega))); exact g_post (rs := [.tmp 4]) rfl (.tmp rfl .nil) ⟨b26, c26, rfl, rfl⟩ (by repeat' (first | exact Cover.nil | exact Take.here | apply Cover.cons | apply Take.there))) | (obtain rfl : R = [] := hR.trans ((if_neg (by omega)).trans (if_neg (by omega))); refine g_ownnil (e := 3) (size := 1) ?_; exact g_post (rs := [.tmp 4]) rfl (.tmp rfl .nil) ⟨none, 0, rfl, rfl⟩ (by repeat' (first | exact Cover.nil | exact Take.here | apply Cover.cons | apply Take.there))) | (exfalso; omega)
    · refine g_seq ?_
      refine g_region ?_
      refine g_pure (p_eql rfl rfl) rfl ?_
      refine g_pure (p_assign rfl) rfl ?_
      refine g_nil ?_
      refine g_qt ?_
      refine g_ifdL rfl (fun h5 => ?_) (fun h5 => ?_)
      · refine g_skip ?_
        refine g_qt ?_
        refine g_ift rfl ?_
        refine g_seq ?_
        refine g_region ?_
        refine g_pure (p_fieldAddr rfl) rfl ?_
        refine g_pure (p_load (by rfl) rfl (by first | (apply Has.own; (repeat' (first | exact Take.here | apply Take.there)); done) | exact Has.ro (by assumption)) (by first | rfl | assumption)) rfl ?_
        refine g_eff (e_bs (xs := [.tmp 14]) rfl rfl rfl (by rfl) (by rfl) rfl (by rfl)) rfl (fun _ _ => ?_)
        rintro ⟨b15, rfl, rfl⟩
        refine g_pure (p_assign rfl) rfl ?_
        refine g_nil ?_
        refine g_qt ?_
        refine g_ret ?_
        refine g_qb_ret ?_
        refine g_qt_ret ?_
        first | (obtain rfl : R = [i.2.1] := hR.trans (if_pos (by omega)); refine g_fold (e := 3) (size := 1) (g := b15) (k := 1) (cap := 1) (cur := [.int .i64 i.2.1]) (xs := ([i.2.1] : List Int).map encI) (by repeat' (first | exact Take.here | apply Take.there)) (by decide) (by decide) rfl rfl ?_; exact g_post (rs := [.tmp 4]) rfl (.tmp rfl .nil) ⟨some ⟨b15, 0, none⟩, 1, rfl, rfl⟩ (by repeat' (first | exact Cover.nil | exact Take.here | apply Cover.cons | apply Take.there))) | (obtain rfl : R = runP i.2.2.2.2 y.2.2.1.length := hR.trans ((if_neg (by omega)).trans (if_pos (by omega))); exact g_post (rs := [.tmp 4]) rfl (.tmp rfl .nil) ⟨b26, c26, rfl, rfl⟩ (by repeat' (first | exact Cover.nil | exact Take.here | apply Cover.cons | apply Take.there))) | (obtain rfl : R = [] := hR.trans ((if_neg (by omega)).trans (if_neg (by omega))); refine g_ownnil (e := 3) (size := 1) ?_; exact g_post (rs := [.tmp 4]) rfl (.tmp rfl .nil) ⟨none, 0, rfl, rfl⟩ (by repeat' (first | exact Cover.nil | exact Take.here | apply Cover.cons | apply Take.there))) | (exfalso; omega)
      · refine g_seq ?_
        refine g_region ?_
        refine g_pure (p_eql rfl rfl) rfl ?_
        refine g_pure (p_assign rfl) rfl ?_
        refine g_nil ?_
        refine g_qt ?_
        refine g_ifdL rfl (fun h7 => ?_) (fun h7 => ?_)
        · refine g_skip ?_
          refine g_qt ?_
          refine g_ift rfl ?_
          refine g_seq ?_
          refine g_region ?_
          refine g_pure (p_fieldAddr rfl) rfl ?_
          refine g_pure (p_load (by rfl) rfl (by first | (apply Has.own; (repeat' (first | exact Take.here | apply Take.there)); done) | exact Has.ro (by assumption)) (by first | rfl | assumption)) rfl ?_
          refine g_eff (e_bs (xs := [.tmp 14]) rfl rfl rfl (by rfl) (by rfl) rfl (by rfl)) rfl (fun _ _ => ?_)
          rintro ⟨b15, rfl, rfl⟩
          refine g_pure (p_assign rfl) rfl ?_
          refine g_nil ?_
          refine g_qt ?_
          refine g_ret ?_
          refine g_qb_ret ?_
          refine g_qt_ret ?_
          first | (obtain rfl : R = [i.2.1] := hR.trans (if_pos (by omega)); refine g_fold (e := 3) (size := 1) (g := b15) (k := 1) (cap := 1) (cur := [.int .i64 i.2.1]) (xs := ([i.2.1] : List Int).map encI) (by repeat' (first | exact Take.here | apply Take.there)) (by decide) (by decide) rfl rfl ?_; exact g_post (rs := [.tmp 4]) rfl (.tmp rfl .nil) ⟨some ⟨b15, 0, none⟩, 1, rfl, rfl⟩ (by repeat' (first | exact Cover.nil | exact Take.here | apply Cover.cons | apply Take.there))) | (obtain rfl : R = runP i.2.2.2.2 y.2.2.1.length := hR.trans ((if_neg (by omega)).trans (if_pos (by omega))); exact g_post (rs := [.tmp 4]) rfl (.tmp rfl .nil) ⟨b26, c26, rfl, rfl⟩ (by repeat' (first | exact Cover.nil | exact Take.here | apply Cover.cons | apply Take.there))) | (obtain rfl : R = [] := hR.trans ((if_neg (by omega)).trans (if_neg (by omega))); refine g_ownnil (e := 3) (size := 1) ?_; exact g_post (rs := [.tmp 4]) rfl (.tmp rfl .nil) ⟨none, 0, rfl, rfl⟩ (by repeat' (first | exact Cover.nil | exact Take.here | apply Cover.cons | apply Take.there))) | (exfalso; omega)
        · refine g_region ?_
          refine g_pure (p_eql rfl rfl) rfl ?_
          refine g_pure (p_assign rfl) rfl ?_
          refine g_nil ?_
          refine g_qt ?_
          refine g_ifdL rfl (fun h9 => ?_) (fun h9 => ?_)
          · refine g_seq ?_
            refine g_region ?_
            refine g_pure (p_fieldAddr rfl) rfl ?_
            refine g_pure (p_load (by rfl) rfl (by first | (apply Has.own; (repeat' (first | exact Take.here | apply Take.there)); done) | exact Has.ro (by assumption)) (by first | rfl | assumption)) rfl ?_
            refine g_eff (e_bs (xs := [.tmp 14]) rfl rfl rfl (by rfl) (by rfl) rfl (by rfl)) rfl (fun _ _ => ?_)
            rintro ⟨b15, rfl, rfl⟩
            refine g_pure (p_assign rfl) rfl ?_
            refine g_nil ?_
            refine g_qt ?_
            refine g_ret ?_
            refine g_qb_ret ?_
            refine g_qt_ret ?_
            first | (obtain rfl : R = [i.2.1] := hR.trans (if_pos (by omega)); refine g_fold (e := 3) (size := 1) (g := b15) (k := 1) (cap := 1) (cur := [.int .i64 i.2.1]) (xs := ([i.2.1] : List Int).map encI) (by repeat' (first | exact Take.here | apply Take.there)) (by decide) (by decide) rfl rfl ?_; exact g_post (rs := [.tmp 4]) rfl (.tmp rfl .nil) ⟨some ⟨b15, 0, none⟩, 1, rfl, rfl⟩ (by repeat' (first | exact Cover.nil | exact Take.here | apply Cover.cons | apply Take.there))) | (obtain rfl : R = runP i.2.2.2.2 y.2.2.1.length := hR.trans ((if_neg (by omega)).trans (if_pos (by omega))); exact g_post (rs := [.tmp 4]) rfl (.tmp rfl .nil) ⟨b26, c26, rfl, rfl⟩ (by repeat' (first | exact Cover.nil | exact Take.here | apply Cover.cons | apply Take.there))) | (obtain rfl : R = [] := hR.trans ((if_neg (by omega)).trans (if_neg (by omega))); refine g_ownnil (e := 3) (size := 1) ?_; exact g_post (rs := [.tmp 4]) rfl (.tmp rfl .nil) ⟨none, 0, rfl, rfl⟩ (by repeat' (first | exact Cover.nil | exact Take.here | apply Cover.cons | apply Take.there))) | (exfalso; omega)
          · refine g_seq ?_
            refine g_region ?_
            refine g_pure (p_eql rfl rfl) rfl ?_
            refine g_pure (p_assign rfl) rfl ?_
            refine g_nil ?_
            refine g_qt ?_
            refine g_ifdL rfl (fun h10 => ?_) (fun h10 => ?_)
            · refine g_seq ?_
              refine m_begin0 (.fl 0 0 (.fl 1 1 (.fl 2 1 (.fl 3 0 (.fl 4 1 (.ef 5 (.fl 6 0 (.fl 7 0 (.ef 8 (.fl 9 0 .done)))))))))) (by kernel_rfl) (by kernel_rfl) ?_
              refine m_float0 rfl (fun _ _ => p_fieldAddr rfl) rfl ?_
              refine m_float rfl (p_load (by rfl) rfl (by first | (apply Has.own; (repeat' (first | exact Take.here | apply Take.there)); done) | exact Has.ro (by assumption)) (by first | rfl | assumption)) rfl ?_
              first | refine m_float rfl (p_loadO (by rfl) rfl (by first | (apply Has.own; (repeat' (first | exact Take.here | apply Take.there)); done) | exact Has.ro (by assumption)) (by rfl)) rfl ?_ | refine m_float rfl (p_loadN (by rfl) rfl (by first | (apply Has.own; (repeat' (first | exact Take.here | apply Take.there)); done) | exact Has.ro (by assumption)) (by first | rfl | assumption)) rfl ?_
              refine m_float0 rfl (fun _ _ => p_fieldAddr rfl) rfl ?_
              refine m_float rfl (p_load (by rfl) rfl (by first | (apply Has.own; (repeat' (first | exact Take.here | apply Take.there)); done) | exact Has.ro (by assumption)) (by first | rfl | assumption)) rfl ?_
              refine m_call (Hin := []) (Hr := ?hr5) (R := ?rr5) rfl wantedN rfl rfl rfl ?hin5 ?hc5 ?hk5
              case hin5 => repeat' (first | exact Cover.nil | exact Take.here | apply Cover.cons | apply Take.there)
              case hc5 => intro ρ' hρ hR; exact called_at (ec := ec) (rc := rc) (h.mono hρ) i.2.1 hy
              rintro _ _ ⟨ja, jc, pa, pc, qa, qc, sa, sc, rfl, rfl⟩
              refine ⟨.some (by repeat' (first | exact Cover.nil | exact Take.here | apply Cover.cons | apply Take.there)), ?_⟩
              refine m_float0 rfl (fun _ _ => p_fieldV Tryz.underlying45 rfl ty22 rfl rfl rfl) rfl ?_
              refine m_float0 rfl (fun _ _ => p_len (by rfl) rfl) rfl ?_
              refine m_call (Hin := []) (Hr := ?hr6) (R := ?rr6) rfl wantedN rfl rfl rfl ?hin6 ?hc6 ?hk6
              case hin6 => repeat' (first | exact Cover.nil | exact Take.here | apply Cover.cons | apply Take.there)
              case hc6 => intro ρ' hρ hR; exact run_ok i.2.2.2.2 y.2.2.1.length hi hcol
              rintro _ _ ⟨b26, c26, rfl, rfl⟩
              refine ⟨.none (by kernel_rfl), ?_⟩
              refine m_float0 rfl (fun _ _ => p_assign rfl) rfl ?_
              refine m_nil ?_
              refine g_qt ?_
              refine g_ret ?_
              refine g_qb_ret ?_
              refine g_qt_ret ?_
              first | (obtain rfl : R = [i.2.1] := hR.trans (if_pos (by omega)); refine g_fold (e := 3) (size := 1) (g := b15) (k := 1) (cap := 1) (cur := [.int .i64 i.2.1]) (xs := ([i.2.1] : List Int).map encI) (by repeat' (first | exact Take.here | apply Take.there)) (by decide) (by decide) rfl rfl ?_; exact g_post (rs := [.tmp 4]) rfl (.tmp rfl .nil) ⟨some ⟨b15, 0, none⟩, 1, rfl, rfl⟩ (by repeat' (first | exact Cover.nil | exact Take.here | apply Cover.cons | apply Take.there))) | (obtain rfl : R = runP i.2.2.2.2 y.2.2.1.length := hR.trans ((if_neg (by omega)).trans (if_pos (by omega))); exact g_post (rs := [.tmp 4]) rfl (.tmp rfl .nil) ⟨b26, c26, rfl, rfl⟩ (by repeat' (first | exact Cover.nil | exact Take.here | apply Cover.cons | apply Take.there))) | (obtain rfl : R = [] := hR.trans ((if_neg (by omega)).trans (if_neg (by omega))); refine g_ownnil (e := 3) (size := 1) ?_; exact g_post (rs := [.tmp 4]) rfl (.tmp rfl .nil) ⟨none, 0, rfl, rfl⟩ (by repeat' (first | exact Cover.nil | exact Take.here | apply Cover.cons | apply Take.there))) | (exfalso; omega)
            · refine g_skip ?_
              refine g_qb ?_
              refine g_qt ?_
              refine g_seq ?_
              refine g_region ?_
              refine g_pure (p_assign rfl) rfl ?_
              refine g_nil ?_
              refine g_qt ?_
              refine g_ret ?_
              first | (obtain rfl : R = [i.2.1] := hR.trans (if_pos (by omega)); refine g_fold (e := 3) (size := 1) (g := b15) (k := 1) (cap := 1) (cur := [.int .i64 i.2.1]) (xs := ([i.2.1] : List Int).map encI) (by repeat' (first | exact Take.here | apply Take.there)) (by decide) (by decide) rfl rfl ?_; exact g_post (rs := [.tmp 4]) rfl (.tmp rfl .nil) ⟨some ⟨b15, 0, none⟩, 1, rfl, rfl⟩ (by repeat' (first | exact Cover.nil | exact Take.here | apply Cover.cons | apply Take.there))) | (obtain rfl : R = runP i.2.2.2.2 y.2.2.1.length := hR.trans ((if_neg (by omega)).trans (if_pos (by omega))); exact g_post (rs := [.tmp 4]) rfl (.tmp rfl .nil) ⟨b26, c26, rfl, rfl⟩ (by repeat' (first | exact Cover.nil | exact Take.here | apply Cover.cons | apply Take.there))) | (obtain rfl : R = [] := hR.trans ((if_neg (by omega)).trans (if_neg (by omega))); refine g_ownnil (e := 3) (size := 1) ?_; exact g_post (rs := [.tmp 4]) rfl (.tmp rfl .nil) ⟨none, 0, rfl, rfl⟩ (by repeat' (first | exact Cover.nil | exact Take.here | apply Cover.cons | apply Take.there))) | (exfalso; omega)
end Go.Proofs.YtcnfcoojmbjdlaaGreatDoor
/- Chapter 26: equality of images. Conditions: none. -/
namespace Go.Z.Asm
set_option maxRecDepth 8000
set_option linter.unusedVariables false
set_option linter.unusedSimpArgs false
set_option linter.unusedSectionVars false
open Go Go.Z Go.Lib
theorem take_eq_step {α : Type} {la lb : List α} {k : Nat} (h1 : k < la.length) (h2 : k < lb.length) (h : la.take k = lb.take k) (e : la[k] = lb[k]) : la.take (k + 1) = lb.take (k + 1) := by
  rw [List.take_add_one, List.take_add_one, h, List.getElem?_eq_getElem h1, List.getElem?_eq_getElem h2, e]
theorem mapI2 (c : List Int) {k : Nat} (hk : k < c.length) : (c.map encI)[k]? = some (.int .i64 c[k]) := mapI c hk
theorem getElem_ne {α : Type} {la lb : List α} {k : Nat} (h1 : k < la.length) (h2 : k < lb.length) (e : la[k] ≠ lb[k]) : la ≠ lb := fun h => by subst h; exact e rfl
end Go.Z.Asm
namespace Go.Proofs.YtcnfcoojmbjdlaaGreatDoor
set_option maxRecDepth 8000
set_option linter.unusedVariables false
set_option linter.unusedSimpArgs false
set_option linter.unusedSectionVars false
open Go Go.Z Go.Z.Asm

theorem eqIns (d : Nat) (x y : Ins) (w : World) : (Op.equalIn (d + 2) 32 (.agg (encIns x).toArray) (.agg (encIns y).toArray)).run Tryz.prog w = .ok (decide (x = y)) w := by
  obtain ⟨a1, a2, a3, a4, a5⟩ := x
  obtain ⟨c1, c2, c3, c4, c5⟩ := y
  have hf : Tryz.prog.fieldsOf 32 = match Tryz.t31.desc with | .struct fs => fs | _ => #[] := by kernel_rfl
  have hg : ∀ w, (isAgg 3).run Tryz.prog w = .ok false w := fun w => TyC.run_agg (ty3) w
  unfold encIns
  rw [run_equalIn_agg w (d + 1) _ _ _ (by kernel_rfl) (by kernel_rfl), hf]
  have hu : Tryz.prog.underlying 3 = some (.int .i64) := Tryz.underlying3
  simp only [Tryz.t31, Op.eqFields, part, Sem.run_bind, hg, Result.andThen_ok]
  by_cases h1 : a1 = c1
  · by_cases h2 : a2 = c2
    · by_cases h3 : a3 = c3
      · by_cases h4 : a4 = c4
        · by_cases h5 : a5 = c5 <;> simp [run_equalIn_int, hu, hg, h1, h2, h3, h4, h5]
        · simp [run_equalIn_int, hu, hg, h1, h2, h3, h4]
      · simp [run_equalIn_int, hu, hg, h1, h2, h3]
    · simp [run_equalIn_int, hu, hg, h1, h2]
  · simp [run_equalIn_int, hu, hg, h1]

theorem intsEq_ok {ρ : Nat → Obj → Prop} (a b : Option Addr) (ac bc : Nat) (la lb : List Int) (ha : RSl ρ 1 a la.length (la.map encI)) (hb : RSl ρ 1 b lb.length (lb.map encI)) (hl : la.length ≤ 9223372036854775807) :
    Con Tryz.prog ρ 29 #[.slice a la.length ac, .slice b lb.length bc] [] (fun v H => v = .bool (decide (la = lb)) ∧ H = []) := by
  obtain ⟨_, b1, o1, c1, T1, f1, hr1⟩ := ha
  obtain ⟨_, b2, o2, c2, T2, f2, hr2⟩ := hb
  refine con_intro Tryz.func29 Tryz.call29 rfl Tryz.ntmps29 rfl (L := [(0, _), (1, _)]) rfl fun w hh => ?_
  refine g_seq ?_
  refine g_region ?_
  refine g_pure (p_assign rfl) rfl ?_
  refine g_nil ?_
  refine g_qt ?_
  refine g_seq ?_
  refine g_seq ?_
  refine g_region ?_
  refine g_pure (p_move rfl) rfl ?_
  refine g_pure (p_len (by rfl) rfl) rfl ?_
  refine g_pure (p_move rfl) rfl ?_
  refine g_pure (p_len (by rfl) rfl) rfl ?_
  refine g_pure (p_neq rfl rfl) rfl ?_
  refine g_nil ?_
  refine g_qt ?_
  refine g_ifnd rfl (fun h1 => ?_) (fun h1 => ?_)
  · refine g_seq ?_
    refine g_region ?_
    refine g_pure (p_assign rfl) rfl ?_
    refine g_nil ?_
    refine g_qt ?_
    refine g_ret ?_
    refine g_qt_ret ?_
    exact g_post (rs := [.tmp 4]) rfl (.tmp rfl .nil) ⟨by rw [decide_eq_false (p := la = lb) (fun h => h1 (by rw [h]))]; rfl, rfl⟩ .nil
  · have hll : la.length = lb.length := by omega
    refine g_skip ?_
    refine g_qt ?_
    refine g_seq ?_
    refine g_seq ?_
    refine g_region ?_
    refine g_pure (p_move rfl) rfl ?_
    refine g_pure (p_len (by rfl) rfl) rfl ?_
    refine g_pure (p_move rfl) rfl ?_
    refine g_nil ?_
    refine g_qt ?_
    refine g_block ?_
    refine g_loop (fun k : Nat => [(0, .slice a la.length ac), (1, .slice b lb.length bc), (12, .int .i64 la.length), (13, .int .i64 k)]) (fun _ => []) (fun k => k ≤ la.length ∧ la.take k = lb.take k) (fun k => la.length - k) 0 ⟨Nat.zero_le _, rfl⟩ (by (repeat (first | exact trivial | refine ⟨by rfl, ?_⟩)); done) .nil ?_
    rintro k ⟨hk1, hk2⟩
    refine g_seq ?_
    refine g_region ?_
    refine g_pure (p_lss rfl rfl) rfl ?_
    refine g_nil ?_
    refine g_qt ?_
    refine g_seq ?_
    refine g_ifd rfl (fun q => ?_) (fun q => ?_)
    · have hka : k < la.length := by omega
      have hkb : k < lb.length := by omega
      refine g_skip ?_
      refine g_qt ?_
      refine g_seq ?_
      refine g_block ?_
      refine g_seq ?_
      refine g_region ?_
      refine g_pure (p_move rfl) rfl ?_
      refine g_pure (p_assign rfl) rfl ?_
      refine g_nil ?_
      refine g_qt ?_
      refine g_seq ?_
      refine m_begin0 (.fl 0 0 (.fl 1 0 (.fl 2 0 (.fl 3 1 (.fl 4 0 (.fl 5 0 (.fl 6 0 (.fl 7 1 (.fl 8 0 .done))))))))) (by kernel_rfl) (by kernel_rfl) ?_
      refine m_float0 rfl (fun _ _ => p_move rfl) rfl ?_
      refine m_float0 rfl (fun _ _ => p_move rfl) rfl ?_
      refine m_float0 rfl (fun _ _ => p_indexAddr rfl rfl (by omega) (fun _ => (hr1 (by omega)).1)) rfl ?_
      refine m_float rfl (p_load (v := .int .i64 la[k]) (by rfl) rfl (Has.ro (hr1 (by omega)).2.1) (by simpa using (hr1 (by omega)).2.2 k _ (mapI2 la hka))) rfl ?_
      refine m_float0 rfl (fun _ _ => p_move rfl) rfl ?_
      refine m_float0 rfl (fun _ _ => p_move rfl) rfl ?_
      refine m_float0 rfl (fun _ _ => p_indexAddr rfl rfl (by omega) (fun _ => (hr2 (by omega)).1)) rfl ?_
      refine m_float rfl (p_load (v := .int .i64 lb[k]) (by rfl) rfl (Has.ro (hr2 (by omega)).2.1) (by simpa using (hr2 (by omega)).2.2 k _ (mapI2 lb hkb))) rfl ?_
      refine m_float0 rfl (fun _ _ => p_neq rfl rfl) rfl ?_
      refine m_nil ?_
      refine g_qt ?_
      refine g_ifnd rfl (fun h2 => ?_) (fun h2 => ?_)
      · refine g_seq ?_
        refine g_region ?_
        refine g_pure (p_assign rfl) rfl ?_
        refine g_nil ?_
        refine g_qt ?_
        refine g_ret ?_
        refine g_qb_ret ?_
        refine g_qt_ret ?_
        refine g_qn_ret ?_
        refine g_qb_ret ?_
        refine g_qt_ret ?_
        exact g_post (rs := [.tmp 4]) rfl (.tmp rfl .nil) ⟨by rw [decide_eq_false (p := la = lb) (getElem_ne hka hkb h2)]; rfl, rfl⟩ .nil
      · have h2' : la[k] = lb[k] := h2
        refine g_skip ?_
        refine g_qb ?_
        refine g_qt ?_
        refine g_region ?_
        first | refine g_pure (p_addi rfl rfl (by omega)) rfl ?_ | refine g_pure (p_add rfl rfl) rfl ?_
        refine g_pure (p_move rfl) rfl ?_
        refine g_nil ?_
        refine g_qn ?_
        exact g_next (k + 1) (by (repeat (first | exact trivial | refine ⟨by rfl, ?_⟩)); done) .nil ⟨hka, take_eq_step hka hkb hk2 h2'⟩ (by omega)
    · rw [List.take_of_length_le (by omega), List.take_of_length_le (by omega)] at hk2
      refine g_exit ?_
      refine g_qt_exit ?_
      refine g_qn_exit ?_
      refine g_qb_exit ?_
      refine g_qt ?_
      refine g_seq ?_
      refine g_region ?_
      refine g_pure (p_assign rfl) rfl ?_
      refine g_nil ?_
      refine g_qt ?_
      refine g_ret ?_
      exact g_post (rs := [.tmp 4]) rfl (.tmp rfl .nil) ⟨by rw [decide_eq_true hk2]; rfl, rfl⟩ .nil

theorem Ints_ok {ρ : Nat → Obj → Prop} (a b : Option Addr) (ac bc : Nat) (la lb : List Int) (ha : RSl ρ 1 a la.length (la.map encI)) (hb : RSl ρ 1 b lb.length (lb.map encI)) (hl : la.length ≤ 9223372036854775807) :
    Con Tryz.prog ρ 16 #[.slice a la.length ac, .slice b lb.length bc] [] (fun v H => v = .bool (decide (la = lb)) ∧ H = []) := by
  obtain ⟨_, b1, o1, c1, T1, f1, hr1⟩ := ha
  obtain ⟨_, b2, o2, c2, T2, f2, hr2⟩ := hb
  refine con_intro Tryz.func16 Tryz.call16 rfl Tryz.ntmps16 rfl (L := [(0, _), (1, _)]) rfl fun w hh => ?_
  refine g_seq ?_
  refine g_region ?_
  refine g_pure (p_assign rfl) rfl ?_
  refine g_nil ?_
  refine g_qt ?_
  refine g_seq ?_
  refine g_seq ?_
  refine g_region ?_
  refine g_pure (p_move rfl) rfl ?_
  refine g_pure (p_len (by rfl) rfl) rfl ?_
  refine g_pure (p_move rfl) rfl ?_
  refine g_pure (p_len (by rfl) rfl) rfl ?_
  refine g_pure (p_neq rfl rfl) rfl ?_
  refine g_nil ?_
  refine g_qt ?_
  refine g_ifnd rfl (fun h1 => ?_) (fun h1 => ?_)
  · refine g_seq ?_
    refine g_region ?_
    refine g_pure (p_assign rfl) rfl ?_
    refine g_nil ?_
    refine g_qt ?_
    refine g_ret ?_
    refine g_qt_ret ?_
    exact g_post (rs := [.tmp 4]) rfl (.tmp rfl .nil) ⟨by rw [decide_eq_false (p := la = lb) (fun h => h1 (by rw [h]))]; rfl, rfl⟩ .nil
  · have hll : la.length = lb.length := by omega
    refine g_skip ?_
    refine g_qt ?_
    refine g_seq ?_
    refine g_seq ?_
    refine g_region ?_
    refine g_pure (p_assign rfl) rfl ?_
    refine g_nil ?_
    refine g_qt ?_
    refine g_block ?_
    refine g_loop (fun k : Nat => [(0, .slice a la.length ac), (1, .slice b lb.length bc), (5, .int .i64 k)]) (fun _ => []) (fun k => k ≤ la.length ∧ la.take k = lb.take k) (fun k => la.length - k) 0 ⟨Nat.zero_le _, rfl⟩ (by (repeat (first | exact trivial | refine ⟨by rfl, ?_⟩)); done) .nil ?_
    rintro k ⟨hk1, hk2⟩
    refine g_seq ?_
    refine g_seq ?_
    refine g_region ?_
    refine g_pure (p_move rfl) rfl ?_
    refine g_pure (p_move rfl) rfl ?_
    refine g_pure (p_len (by rfl) rfl) rfl ?_
    refine g_pure (p_lss rfl rfl) rfl ?_
    refine g_nil ?_
    refine g_qt ?_
    refine g_ifd rfl (fun q => ?_) (fun q => ?_)
    · have hka : k < la.length := by omega
      have hkb : k < lb.length := by omega
      refine g_skip ?_
      refine g_qt ?_
      refine g_seq ?_
      refine g_block ?_
      refine g_seq ?_
      refine m_begin0 (.fl 0 0 (.fl 1 0 (.fl 2 0 (.fl 3 1 (.fl 4 0 (.fl 5 0 (.fl 6 0 (.fl 7 1 (.fl 8 0 .done))))))))) (by kernel_rfl) (by kernel_rfl) ?_
      refine m_float0 rfl (fun _ _ => p_move rfl) rfl ?_
      refine m_float0 rfl (fun _ _ => p_move rfl) rfl ?_
      refine m_float0 rfl (fun _ _ => p_indexAddr rfl rfl (by omega) (fun _ => (hr1 (by omega)).1)) rfl ?_
      refine m_float rfl (p_load (v := .int .i64 la[k]) (by rfl) rfl (Has.ro (hr1 (by omega)).2.1) (by simpa using (hr1 (by omega)).2.2 k _ (mapI2 la hka))) rfl ?_
      refine m_float0 rfl (fun _ _ => p_move rfl) rfl ?_
      refine m_float0 rfl (fun _ _ => p_move rfl) rfl ?_
      refine m_float0 rfl (fun _ _ => p_indexAddr rfl rfl (by omega) (fun _ => (hr2 (by omega)).1)) rfl ?_
      refine m_float rfl (p_load (v := .int .i64 lb[k]) (by rfl) rfl (Has.ro (hr2 (by omega)).2.1) (by simpa using (hr2 (by omega)).2.2 k _ (mapI2 lb hkb))) rfl ?_
      refine m_float0 rfl (fun _ _ => p_neq rfl rfl) rfl ?_
      refine m_nil ?_
      refine g_qt ?_
      refine g_ifnd rfl (fun h2 => ?_) (fun h2 => ?_)
      · refine g_seq ?_
        refine g_region ?_
        refine g_pure (p_assign rfl) rfl ?_
        refine g_nil ?_
        refine g_qt ?_
        refine g_ret ?_
        refine g_qb_ret ?_
        refine g_qt_ret ?_
        refine g_qn_ret ?_
        refine g_qb_ret ?_
        refine g_qt_ret ?_
        exact g_post (rs := [.tmp 4]) rfl (.tmp rfl .nil) ⟨by rw [decide_eq_false (p := la = lb) (getElem_ne hka hkb h2)]; rfl, rfl⟩ .nil
      · have h2' : la[k] = lb[k] := h2
        refine g_skip ?_
        refine g_qb ?_
        refine g_qt ?_
        refine g_region ?_
        refine g_pure (p_move rfl) rfl ?_
        first | refine g_pure (p_addi rfl rfl (by omega)) rfl ?_ | refine g_pure (p_add rfl rfl) rfl ?_
        refine g_pure (p_assign rfl) rfl ?_
        refine g_nil ?_
        refine g_qn ?_
        exact g_next (k + 1) (by (repeat (first | exact trivial | refine ⟨by rfl, ?_⟩)); done) .nil ⟨hka, take_eq_step hka hkb hk2 h2'⟩ (by omega)
    · rw [List.take_of_length_le (by omega), List.take_of_length_le (by omega)] at hk2
      refine g_exit ?_
      refine g_qt_exit ?_
      refine g_qn_exit ?_
      refine g_qb_exit ?_
      refine g_qt ?_
      refine g_seq ?_
      refine g_region ?_
      refine g_pure (p_assign rfl) rfl ?_
      refine g_nil ?_
      refine g_qt ?_
      refine g_ret ?_
      exact g_post (rs := [.tmp 4]) rfl (.tmp rfl .nil) ⟨by rw [decide_eq_true hk2]; rfl, rfl⟩ .nil

theorem codeEq_ok {ρ : Nat → Obj → Prop} (a b : Option Addr) (ac bc : Nat) (la lb : List Ins) (ha : RSl ρ 5 a la.length (la.flatMap encIns)) (hb : RSl ρ 5 b lb.length (lb.flatMap encIns)) (hl : la.length ≤ 17592186044416) :
    Con Tryz.prog ρ 55 #[.slice a la.length ac, .slice b lb.length bc] [] (fun v H => v = .bool (decide (la = lb)) ∧ H = []) := by
  obtain ⟨b1, o1, c1, T1, f1, hr1⟩ := RSl.row encIns_len ha
  obtain ⟨b2, o2, c2, T2, f2, hr2⟩ := RSl.row encIns_len hb
  refine con_intro Tryz.func55 Tryz.call55 rfl Tryz.ntmps55 rfl (L := [(0, _), (1, _)]) rfl fun w hh => ?_
  refine g_seq ?_
  refine g_region ?_
  refine g_pure (p_assign rfl) rfl ?_
  refine g_nil ?_
  refine g_qt ?_
  refine g_seq ?_
  refine g_seq ?_
  refine g_region ?_
  refine g_pure (p_move rfl) rfl ?_
  refine g_pure (p_len (by rfl) rfl) rfl ?_
  refine g_pure (p_move rfl) rfl ?_
  refine g_pure (p_len (by rfl) rfl) rfl ?_
  refine g_pure (p_neq rfl rfl) rfl ?_
  refine g_nil ?_
  refine g_qt ?_
  refine g_ifnd rfl (fun h1 => ?_) (fun h1 => ?_)
  · refine g_seq ?_
    refine g_region ?_
    refine g_pure (p_assign rfl) rfl ?_
    refine g_nil ?_
    refine g_qt ?_
    refine g_ret ?_
    refine g_qt_ret ?_
    exact g_post (rs := [.tmp 4]) rfl (.tmp rfl .nil) ⟨by rw [decide_eq_false (p := la = lb) (fun h => h1 (by rw [h]))]; rfl, rfl⟩ .nil
  · have hll : la.length = lb.length := by omega
    refine g_skip ?_
    refine g_qt ?_
    refine g_seq ?_
    refine g_seq ?_
    refine g_region ?_
    refine g_pure (p_move rfl) rfl ?_
    refine g_pure (p_len (by rfl) rfl) rfl ?_
    refine g_pure (p_move rfl) rfl ?_
    refine g_nil ?_
    refine g_qt ?_
    refine g_block ?_
    refine g_loop (fun k : Nat => [(0, .slice a la.length ac), (1, .slice b lb.length bc), (12, .int .i64 la.length), (13, .int .i64 k)]) (fun _ => []) (fun k => k ≤ la.length ∧ la.take k = lb.take k) (fun k => la.length - k) 0 ⟨Nat.zero_le _, rfl⟩ (by (repeat (first | exact trivial | refine ⟨by rfl, ?_⟩)); done) .nil ?_
    rintro k ⟨hk1, hk2⟩
    refine g_seq ?_
    refine g_region ?_
    refine g_pure (p_lss rfl rfl) rfl ?_
    refine g_nil ?_
    refine g_qt ?_
    refine g_seq ?_
    refine g_ifd rfl (fun q => ?_) (fun q => ?_)
    · have hka : k < la.length := by omega
      have hkb : k < lb.length := by omega
      obtain ⟨p1, p2, p3⟩ := hr1 (by omega)
      obtain ⟨q1, q2, q3⟩ := hr2 (by omega)
      refine g_skip ?_
      refine g_qt ?_
      refine g_seq ?_
      refine g_block ?_
      refine g_seq ?_
      refine g_region ?_
      refine g_pure (p_move rfl) rfl ?_
      refine g_pure (p_assign rfl) rfl ?_
      refine g_nil ?_
      refine g_qt ?_
      refine g_seq ?_
      refine m_begin0 (.fl 0 0 (.fl 1 0 (.fl 2 0 (.fl 3 1 (.fl 4 0 (.fl 5 0 (.fl 6 0 (.fl 7 1 (.fl 8 0 .done))))))))) (by kernel_rfl) (by kernel_rfl) ?_
      refine m_float0 rfl (fun _ _ => p_move rfl) rfl ?_
      refine m_float0 rfl (fun _ _ => p_move rfl) rfl ?_
      refine m_float0 rfl (fun _ _ => p_indexAddr rfl rfl (by omega) (fun _ => p1)) rfl ?_
      refine m_float rfl (p_loadN (by rfl) rfl (Has.ro p2) (by rw [Int.toNat_natCast]; exact (p3 k hka).1 (by decide))) rfl ?_
      refine m_float0 rfl (fun _ _ => p_move rfl) rfl ?_
      refine m_float0 rfl (fun _ _ => p_move rfl) rfl ?_
      refine m_float0 rfl (fun _ _ => p_indexAddr rfl rfl (by omega) (fun _ => q1)) rfl ?_
      refine m_float rfl (p_loadN (by rfl) rfl (Has.ro q2) (by rw [Int.toNat_natCast]; exact (q3 k hkb).1 (by decide))) rfl ?_
      refine m_float0 rfl (fun _ _ => p_neagg (eqIns 9998 la[k] lb[k]) (by kernel_rfl) rfl rfl) rfl ?_
      refine m_nil ?_
      refine g_qt ?_
      refine g_ifnd rfl (fun h2 => ?_) (fun h2 => ?_)
      · refine g_seq ?_
        refine g_region ?_
        refine g_pure (p_assign rfl) rfl ?_
        refine g_nil ?_
        refine g_qt ?_
        refine g_ret ?_
        refine g_qb_ret ?_
        refine g_qt_ret ?_
        refine g_qn_ret ?_
        refine g_qb_ret ?_
        refine g_qt_ret ?_
        exact g_post (rs := [.tmp 4]) rfl (.tmp rfl .nil) ⟨by rw [decide_eq_false (p := la = lb) (getElem_ne hka hkb h2)]; rfl, rfl⟩ .nil
      · have h2' : la[k] = lb[k] := h2
        refine g_skip ?_
        refine g_qb ?_
        refine g_qt ?_
        refine g_region ?_
        first | refine g_pure (p_addi rfl rfl (by omega)) rfl ?_ | refine g_pure (p_add rfl rfl) rfl ?_
        refine g_pure (p_move rfl) rfl ?_
        refine g_nil ?_
        refine g_qn ?_
        exact g_next (k + 1) (by (repeat (first | exact trivial | refine ⟨by rfl, ?_⟩)); done) .nil ⟨hka, take_eq_step hka hkb hk2 h2'⟩ (by omega)
    · rw [List.take_of_length_le (by omega), List.take_of_length_le (by omega)] at hk2
      refine g_exit ?_
      refine g_qt_exit ?_
      refine g_qn_exit ?_
      refine g_qb_exit ?_
      refine g_qt ?_
      refine g_seq ?_
      refine g_region ?_
      refine g_pure (p_assign rfl) rfl ?_
      refine g_nil ?_
      refine g_qt ?_
      refine g_ret ?_
      exact g_post (rs := [.tmp 4]) rfl (.tmp rfl .nil) ⟨by rw [decide_eq_true hk2]; rfl, rfl⟩ .nil
end Go.Proofs.YtcnfcoojmbjdlaaGreatDoor
