/- Chapter 38: the small case of the statements: the walk. Conditions: none. -/
import Derived.Test.YtkebblmmgcgjkaaK5
namespace Go.Proofs.Ytkebblmmgcgjkaa
set_option maxRecDepth 8000
set_option linter.unusedVariables false
set_option linter.unusedSimpArgs false
set_option linter.unusedSectionVars false
open Go Go.Z Go.Z.Val Go.Z.Aig Go.Z.Bit

set_option maxHeartbeats 4000000 in
theorem blives_ok {ρ : Nat → Obj → Prop} : Con Try.prog ρ 20 #[] [] (fun v H => v = .bool true ∧ H = []) := by
  have hS : Gr = Gr := rfl
  have l7 : ((bitsR 16 7).map lit1).length = 16 := by rw [List.length_map, bitsR_len]
  have lm : ((bitsR 16 (-2)).map lit1).length = 16 := by rw [List.length_map, bitsR_len]
  have d7 : ∀ {T : St}, WF T → DenL T ((bitsR 16 7).map lit1) (fun _ => bitsR 16 7) := fun h => DenL.const h _
  have dm : ∀ {T : St}, WF T → DenL T ((bitsR 16 (-2)).map lit1) (fun _ => bitsR 16 (-2)) := fun h => DenL.const h _
  refine con_intro Try.func20 Try.call20 rfl Try.ntmps20 rfl (L := []) rfl fun w hh => ?_
  refine g_seq ?_
  refine g_region ?_
  refine g_pure (p_assign rfl) rfl ?_
  refine g_nil ?_
  refine g_qt ?_
  refine g_seq ?_
  refine g_region ?_
  refine g_call (Hin := []) (Hr := ?hr1) (R := ?rr1) rfl rfl rfl ?hin1 ?hc1 ?hk1
  case hin1 => repeat' (first | exact Cover.nil | exact Take.here | apply Cover.cons | apply Take.there)
  case hc1 => intro ρ' hρ hR; exact new_ok
  rintro _ _ ⟨p, rfl, rfl⟩
  refine g_pure (p_assign rfl) rfl ?_
  refine g_nil ?_
  refine g_qt ?_
  refine g_seq ?_
  refine g_seq ?_
  refine g_region ?_
  refine g_pure (p_move rfl) rfl ?_
  refine g_pure (p_eqnil (by rfl) rfl rfl) rfl ?_
  refine g_nil ?_
  refine g_qt ?_
  refine g_iff rfl ?_
  refine g_skip ?_
  refine g_qt ?_
  refine g_seq ?_
  refine g_region ?_
  refine g_call (Hin := []) (Hr := ?hr2) (R := ?rr2) rfl rfl rfl ?hin2 ?hc2 ?hk2
  case hin2 => repeat' (first | exact Cover.nil | exact Take.here | apply Cover.cons | apply Take.there)
  case hc2 => intro ρ' hρ hR; exact cst_ok 7 (by omega)
  rintro _ _ ⟨aa, ac, rfl, rfl⟩
  refine g_pure (p_move rfl) rfl ?_
  refine g_pure (p_extract rfl rfl) rfl ?_
  refine g_pure (p_extract rfl rfl) rfl ?_
  refine g_pure (p_assign rfl) rfl ?_
  refine g_pure (p_assign rfl) rfl ?_
  refine g_nil ?_
  refine g_qt ?_
  refine g_seq ?_
  refine g_region ?_
  refine g_call (Hin := []) (Hr := ?hr3) (R := ?rr3) rfl rfl rfl ?hin3 ?hc3 ?hk3
  case hin3 => repeat' (first | exact Cover.nil | exact Take.here | apply Cover.cons | apply Take.there)
  case hc3 => intro ρ' hρ hR; exact cst_ok (-2) (by omega)
  rintro _ _ ⟨ba, bc, rfl, rfl⟩
  refine g_pure (p_move rfl) rfl ?_
  refine g_pure (p_extract rfl rfl) rfl ?_
  refine g_pure (p_extract rfl rfl) rfl ?_
  refine g_pure (p_assign rfl) rfl ?_
  refine g_pure (p_assign rfl) rfl ?_
  refine g_nil ?_
  refine g_qt ?_
  refine g_seq ?_
  refine g_seq ?_
  refine g_own (e := 27) (a1 := ba) (k := 16) (cap := bc) (xs := ((bitsR 16 (-2)).map lit1).map encI) (by repeat' (first | exact Take.here | apply Take.there)) (fun _ h2 _ _ => absurd h2 (by omega)) ?_
  rintro gb curb rfl b1 b2 b3 b4 b5
  have c0 : curb[0 + (0 : Int).toNat * 1]? = some (.int .i64 0) := own_at (k := 0) b4 rfl rfl
  have c1 : curb[0 + (1 : Int).toNat * 1]? = some (.int .i64 1) := own_at (k := 1) b4 rfl rfl
  have c15 : curb[0 + (15 : Int).toNat * 1]? = some (.int .i64 1) := own_at (k := 15) b4 rfl rfl
  refine g_region ?_
  refine g_pure (p_move rfl) rfl ?_
  refine g_pure (p_neqF rfl rfl rfl) rfl ?_
  refine g_pure (p_move rfl) rfl ?_
  refine g_yes rfl rfl ?_
  refine g_pure (p_move rfl) rfl ?_
  refine g_yes rfl rfl ?_
  refine g_pure (p_neqF rfl rfl rfl) rfl ?_
  first | refine g_pure (p_pickt rfl rfl) rfl ?_ | refine g_pure (p_pickf rfl rfl) rfl ?_
  refine g_pure (p_move rfl) rfl ?_
  refine g_yes rfl rfl ?_
  refine g_pure (p_move rfl) rfl ?_
  refine g_yes rfl rfl ?_
  refine g_pure (p_len (by rfl) rfl) rfl ?_
  refine g_yes rfl rfl ?_
  refine g_pure (p_neqF rfl rfl rfl) rfl ?_
  first | refine g_pure (p_pickt rfl rfl) rfl ?_ | refine g_pure (p_pickf rfl rfl) rfl ?_
  refine g_pure (p_move rfl) rfl ?_
  refine g_yes rfl rfl ?_
  refine g_pure (p_move rfl) rfl ?_
  refine g_yes rfl rfl ?_
  refine g_pure (p_len (by rfl) rfl) rfl ?_
  refine g_yes rfl rfl ?_
  refine g_pure (p_neqF rfl rfl rfl) rfl ?_
  first | refine g_pure (p_pickt rfl rfl) rfl ?_ | refine g_pure (p_pickf rfl rfl) rfl ?_
  refine g_pure (p_move rfl) rfl ?_
  refine g_yes rfl rfl ?_
  refine g_pure (p_move rfl) rfl ?_
  refine g_yes rfl rfl ?_
  refine g_pure (p_indexAddr rfl rfl (by omega) (fun _ => rfl)) rfl ?_
  refine g_yes rfl rfl ?_
  refine g_pure (p_load (by rfl) rfl (Has.own (by repeat' (first | exact Take.here | apply Take.there))) c0) rfl ?_
  refine g_yes rfl rfl ?_
  refine g_pure (p_neqF rfl rfl rfl) rfl ?_
  first | refine g_pure (p_pickt rfl rfl) rfl ?_ | refine g_pure (p_pickf rfl rfl) rfl ?_
  refine g_pure (p_move rfl) rfl ?_
  refine g_yes rfl rfl ?_
  refine g_pure (p_move rfl) rfl ?_
  refine g_yes rfl rfl ?_
  refine g_pure (p_indexAddr rfl rfl (by omega) (fun _ => rfl)) rfl ?_
  refine g_yes rfl rfl ?_
  refine g_pure (p_load (by rfl) rfl (Has.own (by repeat' (first | exact Take.here | apply Take.there))) c1) rfl ?_
  refine g_yes rfl rfl ?_
  refine g_pure (p_neqF rfl rfl rfl) rfl ?_
  first | refine g_pure (p_pickt rfl rfl) rfl ?_ | refine g_pure (p_pickf rfl rfl) rfl ?_
  refine g_pure (p_move rfl) rfl ?_
  refine g_yes rfl rfl ?_
  refine g_pure (p_move rfl) rfl ?_
  refine g_yes rfl rfl ?_
  refine g_pure (p_indexAddr rfl rfl (by omega) (fun _ => rfl)) rfl ?_
  refine g_yes rfl rfl ?_
  refine g_pure (p_load (by rfl) rfl (Has.own (by repeat' (first | exact Take.here | apply Take.there))) c15) rfl ?_
  refine g_yes rfl rfl ?_
  refine g_pure (p_neqF rfl rfl rfl) rfl ?_
  first | refine g_pure (p_pickt rfl rfl) rfl ?_ | refine g_pure (p_pickf rfl rfl) rfl ?_
  refine g_nil ?_
  refine g_qt ?_
  refine g_iff rfl ?_
  refine g_skip ?_
  refine g_qt ?_
  refine g_seq ?_
  refine g_fold (e := 27) (g := gb) (k := 16) (cap := bc) (size := 1) (xs := ((bitsR 16 (-2)).map lit1).map encI) (by repeat' (first | exact Take.here | apply Take.there)) b1 b2 b3 b4 ?_
  refine g_region ?_
  refine g_pure (p_move rfl) rfl ?_
  refine g_pure (p_move rfl) rfl ?_
  refine g_pure (p_move rfl) rfl ?_
  refine g_eff (e_bs (xs := [.tmp 61, .tmp 62]) rfl rfl rfl (by rfl) (by rfl) rfl (by rfl)) rfl (fun _ _ => ?_)
  rintro ⟨b63, rfl, rfl⟩
  refine g_call (Hin := [Gr p [(0, 0, false)]]) (Hr := ?hr4) (R := ?rr4) rfl rfl rfl ?hin4 ?hc4 ?hk4
  case hin4 => repeat' (first | exact Cover.nil | exact Take.here | apply Cover.cons | apply Take.there)
  case hc4 => intro ρ' hρ hR; exact apply_two (op := 9) p (S := [(0, 0, false)]) WF.new (by decide) (d7 WF.new) (dm WF.new) ⟨l7, lm⟩ (by omega) (two_rows l7 lm (Take.ro (A := Blk b63 (.cells [.slice aa 16 ac, .slice (some ⟨gb, 0, none⟩) 16 bc].toArray 26 (0, 0))) (by repeat' (first | exact Take.here | apply Take.there)) hR).blk (RSl.of_own (Take.ro (A := OwnSl 27 1 aa 16 ac (((bitsR 16 7).map lit1).map encI)) (by repeat' (first | exact Take.here | apply Take.there)) hR)) (RSl.of_own (Take.ro (A := OwnSl 27 1 (some ⟨gb, 0, none⟩) 16 bc (((bitsR 16 (-2)).map lit1).map encI)) (by repeat' (first | exact Take.here | apply Take.there)) hR))) (m := 16) rfl
  rintro _ _ ⟨qa, qc, q, T, rfl, rfl, hq, u, d⟩
  refine g_pure (p_move rfl) rfl ?_
  refine g_pure (p_extract rfl rfl) rfl ?_
  refine g_pure (p_extract rfl rfl) rfl ?_
  refine g_pure (p_assign rfl) rfl ?_
  refine g_pure (p_assign rfl) rfl ?_
  refine g_nil ?_
  refine g_qt ?_
  refine g_seq ?_
  refine g_region ?_
  refine g_pure (p_move rfl) rfl ?_
  refine g_pure (p_move rfl) rfl ?_
  refine g_pure (p_move rfl) rfl ?_
  refine g_eff (e_bs (xs := [.tmp 69, .tmp 70]) rfl rfl rfl (by rfl) (by rfl) rfl (by rfl)) rfl (fun _ _ => ?_)
  rintro ⟨b71, rfl, rfl⟩
  have hul := u.len
  refine g_call (Hin := [Gr p T]) (Hr := ?hr5) (R := ?rr5) rfl rfl rfl ?hin5 ?hc5 ?hk5
  case hin5 => repeat' (first | exact Cover.nil | exact Take.here | apply Cover.cons | apply Take.there)
  case hc5 => intro ρ' hρ hR; exact apply_two (op := 13) p (S := T) u.wf (by simp at hul; omega) (d7 u.wf) (dm u.wf) ⟨l7, lm⟩ (by omega) (two_rows l7 lm (Take.ro (A := Blk b71 (.cells [.slice aa 16 ac, .slice (some ⟨gb, 0, none⟩) 16 bc].toArray 26 (0, 0))) (by repeat' (first | exact Take.here | apply Take.there)) hR).blk (RSl.of_own (Take.ro (A := OwnSl 27 1 aa 16 ac (((bitsR 16 7).map lit1).map encI)) (by repeat' (first | exact Take.here | apply Take.there)) hR)) (RSl.of_own (Take.ro (A := OwnSl 27 1 (some ⟨gb, 0, none⟩) 16 bc (((bitsR 16 (-2)).map lit1).map encI)) (by repeat' (first | exact Take.here | apply Take.there)) hR))) (m := 1) rfl
  rintro _ _ ⟨ra, rc, r, U, rfl, rfl, hr, u2, d2⟩
  refine g_pure (p_move rfl) rfl ?_
  refine g_pure (p_extract rfl rfl) rfl ?_
  refine g_pure (p_extract rfl rfl) rfl ?_
  refine g_pure (p_assign rfl) rfl ?_
  refine g_pure (p_assign rfl) rfl ?_
  refine g_nil ?_
  refine g_qt ?_
  refine g_seq ?_
  refine g_own (e := 27) (a1 := ra) (k := 1) (cap := rc) (xs := r.map encI) (by repeat' (first | exact Take.here | apply Take.there)) (fun _ h2 _ _ => absurd h2 (by omega)) ?_
  rintro gr curr rfl e1 e2 e3 e4 e5
  have hsub : sub curr 0 (1 * 1) = some (r.map encI) := by have := sub_own (n := 1) e4 hr (Nat.le_refl _); rwa [List.take_of_length_le (by omega)] at this
  have hone : one1 (r.map encI) = true := by unfold one1; rw [List.all_eq_true]; intro v hv; obtain ⟨y, _, rfl⟩ := List.mem_map.1 hv; rfl
  refine g_region ?_
  refine g_pure (p_move rfl) rfl ?_
  refine g_pure (p_move rfl) rfl ?_
  refine g_pure (p_move rfl) rfl ?_
  refine g_eff (e_append rfl rfl rfl rfl (Has.own (b := gr) (by repeat' (first | exact Take.here | apply Take.there))) hsub hone (by repeat' (first | exact Take.here | apply Take.there)) (by omega) (by dsimp only; omega) (by omega)) rfl (fun _ _ => ?_)
  rintro ⟨va, vc, rfl, rfl⟩
  have eq1 : q.map encI ++ r.map encI = (q ++ r).map encI := (List.map_append ..).symm
  have hqr : (q ++ r).length = 17 := by rw [List.length_append]; omega
  have dqr : DenL U (q ++ r) (fun i => operateF 9 (bitsR 16 7) (bitsR 16 (-2)) ++ operateF 13 (bitsR 16 7) (bitsR 16 (-2))) := (d.up u.wf u2).app d2
  have u3 : Up (S0 0) U 10000 := u.trans u2 (by omega)
  have hev : eval1 U [] (q ++ r) = (bitsR 16 (-3) ++ [false], 0) := by
    rw [eval_up u3 rfl dqr]
    have e : operateF 9 (bitsR 16 7) (bitsR 16 (-2)) ++ operateF 13 (bitsR 16 7) (bitsR 16 (-2)) = bitsR 16 (-3) ++ [false] := by decide +kernel
    rw [e]
  rw [eq1]
  generalize q ++ r = qr at hqr dqr hev ⊢
  refine g_call (Hin := []) (Hr := ?hr6) (R := ?rr6) rfl rfl rfl ?hin6 ?hc6 ?hk6
  case hin6 => repeat' (first | exact Cover.nil | exact Take.here | apply Cover.cons | apply Take.there)
  case hc6 => intro ρ' hρ hR; exact (by have := eval_at (ρ := ρ') (p := p) (ia := none) (ic := 0) (al := va) (cl := vc) hev RSl.nil (by rw [hqr]; exact RSl.of_own (Take.ro (A := OwnSl 27 1 va 17 vc (qr.map encI)) (by repeat' (first | exact Take.here | apply Take.there)) hR)) (by omega) (by simp) (i64_of u2.wf dqr) (Take.ro (A := Gr p U) (by repeat' (first | exact Take.here | apply Take.there)) hR); rw [hqr] at this; exact this)
  rintro _ _ ⟨ea, ec, rfl, rfl⟩
  refine g_pure (p_move rfl) rfl ?_
  refine g_pure (p_extract rfl rfl) rfl ?_
  refine g_pure (p_extract rfl rfl) rfl ?_
  refine g_pure (p_assign rfl) rfl ?_
  refine g_pure (p_assign rfl) rfl ?_
  refine g_nil ?_
  refine g_qt ?_
  refine g_seq ?_
  refine g_seq ?_
  rw [show (bitsR 16 (-3) ++ [false]).length = 17 from rfl]
  refine g_cap (e := 4) (size := 1) (a1 := ea) (k := 17) (cap := ec) (xs := (bitsR 16 (-3) ++ [false]).map encB) (by repeat' (first | exact Take.here | apply Take.there)) fun hcap hcap2 => ?_
  refine g_region ?_
  refine g_pure (p_move rfl) rfl ?_
  refine g_pure (p_neqF rfl rfl rfl) rfl ?_
  refine g_pure (p_move rfl) rfl ?_
  refine g_yes rfl rfl ?_
  refine g_pure (p_move rfl) rfl ?_
  refine g_yes rfl rfl ?_
  refine g_pure (p_neqF rfl rfl rfl) rfl ?_
  first | refine g_pure (p_pickt rfl rfl) rfl ?_ | refine g_pure (p_pickf rfl rfl) rfl ?_
  refine g_pure (p_move rfl) rfl ?_
  refine g_yes rfl rfl ?_
  refine g_pure (p_move rfl) rfl ?_
  refine g_yes rfl rfl ?_
  refine g_pure (p_neqF rfl rfl rfl) rfl ?_
  first | refine g_pure (p_pickt rfl rfl) rfl ?_ | refine g_pure (p_pickf rfl rfl) rfl ?_
  refine g_pure (p_move rfl) rfl ?_
  refine g_yes rfl rfl ?_
  refine g_pure (p_move rfl) rfl ?_
  refine g_yes rfl rfl ?_
  refine g_pure (p_len (by rfl) rfl) rfl ?_
  refine g_yes rfl rfl ?_
  refine g_pure (p_neqF rfl rfl rfl) rfl ?_
  first | refine g_pure (p_pickt rfl rfl) rfl ?_ | refine g_pure (p_pickf rfl rfl) rfl ?_
  refine g_nil ?_
  refine g_qt ?_
  refine g_iff rfl ?_
  refine g_skip ?_
  refine g_qt ?_
  refine g_seq ?_
  refine g_region ?_
  refine g_pure (p_move rfl) rfl ?_
  refine g_pure (p_sliceh rfl rfl ⟨by decide, by omega⟩) rfl ?_
  refine g_call (Hin := []) (Hr := ?hr7) (R := ?rr7) rfl rfl rfl ?hin7 ?hc7 ?hk7
  case hin7 => repeat' (first | exact Cover.nil | exact Take.here | apply Cover.cons | apply Take.there)
  case hc7 => intro ρ' hρ hR; exact (by have := val_ok (ρ := ρ') (bc := ec) (ba := ea) (bs := bitsR 16 (-3)) (bitsR_len _ _) (by have := rsl_pre (m := 16) (RSl.of_own (Take.ro (A := OwnSl 4 1 ea 17 ec ((bitsR 16 (-3) ++ [false]).map encB)) (by repeat' (first | exact Take.here | apply Take.there)) hR)) (by omega); exact this); rw [show sg (bitsR 16 (-3)) = -3 by decide +kernel] at this; exact this)
  rintro _ _ ⟨rfl, rfl⟩
  refine g_pure (p_move rfl) rfl ?_
  refine g_pure (p_extract rfl rfl) rfl ?_
  refine g_pure (p_extract rfl rfl) rfl ?_
  refine g_pure (p_assign rfl) rfl ?_
  refine g_pure (p_assign rfl) rfl ?_
  refine g_nil ?_
  refine g_qt ?_
  refine g_seq ?_
  refine g_own (e := 4) (a1 := ea) (k := 17) (cap := ec) (xs := (bitsR 16 (-3) ++ [false]).map encB) (by repeat' (first | exact Take.here | apply Take.there)) (fun _ h2 _ _ => absurd h2 (by omega)) ?_
  rintro ge cure rfl f1 f2 f3 f4 f5
  have c16 : cure[0 + (16 : Int).toNat * 1]? = some (.bool false) := own_at (k := 16) f4 rfl rfl
  refine g_region ?_
  refine g_pure (p_move rfl) rfl ?_
  refine g_pure (p_eqlT rfl rfl rfl) rfl ?_
  refine g_pure (p_move rfl) rfl ?_
  refine g_yes rfl rfl ?_
  refine g_pure (p_move rfl) rfl ?_
  refine g_yes rfl rfl ?_
  refine g_pure (p_eqlT rfl rfl rfl) rfl ?_
  first | refine g_pure (p_pickt rfl rfl) rfl ?_ | refine g_pure (p_pickf rfl rfl) rfl ?_
  refine g_pure (p_move rfl) rfl ?_
  refine g_yes rfl rfl ?_
  refine g_pure (p_move rfl) rfl ?_
  refine g_yes rfl rfl ?_
  refine g_pure (p_indexAddr rfl rfl (by omega) (fun _ => rfl)) rfl ?_
  refine g_yes rfl rfl ?_
  refine g_pure (p_load (by rfl) rfl (Has.own (by repeat' (first | exact Take.here | apply Take.there))) c16) rfl ?_
  refine g_yes rfl rfl ?_
  refine g_pure (p_not rfl) rfl ?_
  first | refine g_pure (p_pickt rfl rfl) rfl ?_ | refine g_pure (p_pickf rfl rfl) rfl ?_
  refine g_pure (p_move rfl) rfl ?_
  refine g_yes rfl rfl ?_
  refine g_call (Hin := []) (Hr := ?hr8) (R := ?rr8) rfl rfl rfl ?hin8 ?hc8 ?hk8
  case hin8 => repeat' (first | exact Cover.nil | exact Take.here | apply Cover.cons | apply Take.there)
  case hc8 => intro ρ' hρ hR; exact three_ok
  rintro _ _ ⟨tb, tb2, rfl, rfl⟩
  refine g_yes rfl rfl ?_
  refine g_call (Hin := []) (Hr := ?hr9) (R := ?rr9) rfl rfl rfl ?hin9 ?hc9 ?hk9
  case hin9 => repeat' (first | exact Cover.nil | exact Take.here | apply Cover.cons | apply Take.there)
  case hc9 => intro ρ' hρ hR; exact (by have := width_ok (ρ := ρ') (ec := 1) (three_enr (b := tb) (b2 := tb2) (Take.ro (A := Blk tb _) (by repeat' (first | exact Take.here | apply Take.there)) hR).blk (Take.ro (A := Blk tb2 _) (by repeat' (first | exact Take.here | apply Take.there)) hR).blk) (by show (1 : Nat) ≤ 9223372036854775807; omega) 3 (by unfold I64; omega); rw [show widthN (threeE tb2) 3 = 2 from rfl] at this; exact this)
  rintro _ _ ⟨rfl, rfl⟩
  refine g_yes rfl rfl ?_
  refine g_pure (p_eqlT rfl rfl rfl) rfl ?_
  first | refine g_pure (p_pickt rfl rfl) rfl ?_ | refine g_pure (p_pickf rfl rfl) rfl ?_
  refine g_pure (p_assign rfl) rfl ?_
  refine g_nil ?_
  refine g_qt ?_
  refine g_ret ?_
  exact g_post (Ho := []) (rs := [.tmp 0]) rfl (.tmp rfl .nil) ⟨rfl, rfl⟩ .nil
end Go.Proofs.Ytkebblmmgcgjkaa
