/- Chapter 16: selection; the document's operators, selection, constants. Conditions: none. -/
import Derived.Test.YtceecdjckhbncaaD3
namespace Go.Z.Val
set_option linter.unusedVariables false
set_option linter.unusedSimpArgs false
set_option linter.unusedSectionVars false
open Go Go.Z
theorem SlS.of3 {ρ : Nat → Obj → Prop} {b : Nat} {T : TypeId} {fz : Nat × Nat} {a1 a2 a3 : Option Addr} {c1 c2 c3 : Nat} {x y z : List Ce} (h : ρ b (.cells [.slice a1 x.length c1, .slice a2 y.length c2, .slice a3 z.length c3].toArray T fz)) (h1 : RSl ρ 2 a1 x.length (x.flatMap encC)) (h2 : RSl ρ 2 a2 y.length (y.flatMap encC)) (h3 : RSl ρ 2 a3 z.length (z.flatMap encC)) : SlS ρ (some ⟨b, 0, none⟩) [x, y, z] := by
  refine ⟨_, rfl, fun j hj => ?_, RSl.of_blk (size := 1) (k := 3) h (by simp)⟩
  match j, hj with
  | 0, _ => exact ⟨a1, c1, rfl, h1⟩
  | 1, _ => exact ⟨a2, c2, rfl, h2⟩
  | 2, _ => exact ⟨a3, c3, rfl, h3⟩
theorem lenF3 (x y z : List Ce) : lenF [x, y, z] = min (min x.length y.length) z.length := rfl
def ifU (u v w : Ce) : Ce := if u.1 = 1 ∧ u.2 = 1 then v else if u.1 = 1 ∧ u.2 = 0 then w else (2, 0)
def ifG (c a b : List Ce) (t : Nat) : Ce := ifU (cleanF (at0 c t)) (cleanF (at0 a t)) (cleanF (at0 b t))
theorem ifU_clean (u v w : Ce) : ifU (cleanF u) v w = ifU u v w := by
  unfold ifU cleanF
  by_cases h1 : u.1 = 1
  · simp [h1]
  · by_cases h2 : u.1 = 2 <;> simp [h1, h2]
def IfF (c a b : List Ce) (t : Nat) : Ce := if jointF [c, a, b] t then ifG c a b t else (0, 0)
def IfL (c a b : List Ce) : List Ce := (List.range (lenF [c, a, b])).map (IfF c a b)
end Go.Z.Val
namespace Go.Proofs.Ytceecdjckhbncaa
open Go Go.Z Go.Z.Val

theorem if1_ok {ρ : Nat → Obj → Prop} {c a b : List Ce} {t : Nat} {ca : Option Addr} {k : Nat} (ek : k = [c, a, b].length) (hc : RSl ρ 2 ca k ((cellsAt [c, a, b] t).flatMap encC)) :
    Con Try.prog ρ 47 #[.slice ca k k] [Al []] (fun v H => v = aggC (ifG c a b t) ∧ H = [Al []]) := by
  obtain ⟨_, bl, ol, kl, Tl, fl, hl⟩ := hc
  obtain ⟨l1, l2, l3⟩ := hl (by rw [ek]; simp)
  obtain ⟨-, x1, x2⟩ := cell_at l3 (k := 0) (by simp [cellsAt])
  obtain ⟨y0, -, -⟩ := cell_at l3 (k := 1) (by simp [cellsAt])
  obtain ⟨z0, -, -⟩ := cell_at l3 (k := 2) (by simp [cellsAt])
  have x1' : kl[ol + (0 : Int).toNat * 2]? = some (.int .i64 (cleanF (at0 c t)).1) := x1
  have x2' : kl[ol + (0 : Int).toNat * 2 + 1]? = some (.int .i64 (cleanF (at0 c t)).2) := x2
  have y0' : sub kl (ol + (1 : Int).toNat * 2) 2 = some (encC (cleanF (at0 a t))) := y0
  have z0' : sub kl (ol + (2 : Int).toNat * 2) 2 = some (encC (cleanF (at0 b t))) := z0
  clear x1 x2 y0 z0
  unfold ifG
  generalize cleanF (at0 c t) = u at *
  generalize cleanF (at0 a t) = v at *
  generalize cleanF (at0 b t) = w at *
  obtain ⟨u1, u2⟩ := u
  obtain ⟨v1, v2⟩ := v
  obtain ⟨w1, w2⟩ := w
  subst ek
  refine con_intro Try.func47 Try.call47 rfl Try.ntmps47 rfl (L := [(0, _)]) rfl fun w hh => ?_
  refine g_seq ?_
  refine g_region ?_
  refine g_eff (e_alloc (by rfl)) rfl (fun _ _ => ?_)
  rintro ⟨b2, rfl, rfl⟩
  refine g_nil ?_
  refine g_qt ?_
  refine g_seq ?_
  refine g_block ?_
  refine g_seq ?_
  refine g_region ?_
  refine g_pure (p_move rfl) rfl ?_
  refine g_pure (p_indexAddr rfl rfl (by simp) (fun _ => l1)) rfl ?_
  refine g_pure (p_fieldAddr rfl) rfl ?_
  refine g_pure (p_load (by rfl) rfl (Has.ro l2) x1') rfl ?_
  refine g_pure (p_eql rfl rfl) rfl ?_
  refine g_pure (p_move rfl) rfl ?_
  refine g_splitd rfl rfl (fun h1 => ?_) (fun h1 => ?_)
  · refine g_yes rfl rfl ?_
    refine g_pure (p_move rfl) rfl ?_
    refine g_yes rfl rfl ?_
    refine g_pure (p_indexAddr rfl rfl (by simp) (fun _ => l1)) rfl ?_
    refine g_yes rfl rfl ?_
    refine g_pure (p_fieldAddr rfl) rfl ?_
    refine g_yes rfl rfl ?_
    refine g_pure (p_load (by rfl) rfl (Has.ro l2) x2') rfl ?_
    refine g_yes rfl rfl ?_
    refine g_pure (p_eql rfl rfl) rfl ?_
    first | refine g_pure (p_pickt rfl rfl) rfl ?_ | refine g_pure (p_pickf rfl rfl) rfl ?_
    refine g_pure (p_assign rfl) rfl ?_
    refine g_nil ?_
    refine g_qt ?_
    refine g_ifdL rfl (fun h2 => ?_) (fun h2 => ?_)
    · refine g_seq ?_
      refine g_region ?_
      refine g_pure (p_move rfl) rfl ?_
      refine g_pure (p_indexAddr rfl rfl (by simp) (fun _ => l1)) rfl ?_
      refine g_pure (p_loadN (by rfl) rfl (Has.ro l2) y0') rfl ?_
      first | refine g_eff0 (e_storeO rfl rfl (by rfl) (by rfl) (by rfl) (by repeat' (first | exact Take.here | apply Take.there)) (by rfl)) (fun _ _ => ?_) | refine g_eff0 (e_storeN rfl rfl (by rfl) (by rfl) (by rfl) (by repeat' (first | exact Take.here | apply Take.there)) (by simp)) (fun _ _ => ?_)
      rintro rfl
      refine g_nil ?_
      refine g_qt ?_
      refine g_ret ?_
      refine g_qb_ret ?_
      refine g_qt_ret ?_
      exact g_post (Ho := [Al []]) (rs := [.cell 2 31]) rfl (Res.cellN (by rfl) rfl (Has.own (by repeat' (first | exact Take.here | apply Take.there))) (by rfl) .nil) ⟨by unfold ifU; dsimp only at *; first | (rw [if_pos (by omega)]; rfl) | (rw [if_neg (by omega), if_pos (by omega)]; rfl) | (rw [if_neg (by omega), if_neg (by omega)]; rfl), rfl⟩ (by repeat' (first | exact Cover.nil | exact Take.here | apply Cover.cons | apply Take.there))
    · refine g_seq ?_
      refine g_region ?_
      refine g_pure (p_move rfl) rfl ?_
      refine g_pure (p_indexAddr rfl rfl (by simp) (fun _ => l1)) rfl ?_
      refine g_pure (p_fieldAddr rfl) rfl ?_
      refine g_pure (p_load (by rfl) rfl (Has.ro l2) x1') rfl ?_
      refine g_pure (p_eql rfl rfl) rfl ?_
      refine g_pure (p_move rfl) rfl ?_
      refine g_splitd rfl rfl (fun h3 => ?_) (fun h3 => ?_)
      · refine g_yes rfl rfl ?_
        refine g_pure (p_move rfl) rfl ?_
        refine g_yes rfl rfl ?_
        refine g_pure (p_indexAddr rfl rfl (by simp) (fun _ => l1)) rfl ?_
        refine g_yes rfl rfl ?_
        refine g_pure (p_fieldAddr rfl) rfl ?_
        refine g_yes rfl rfl ?_
        refine g_pure (p_load (by rfl) rfl (Has.ro l2) x2') rfl ?_
        refine g_yes rfl rfl ?_
        refine g_pure (p_eql rfl rfl) rfl ?_
        first | refine g_pure (p_pickt rfl rfl) rfl ?_ | refine g_pure (p_pickf rfl rfl) rfl ?_
        refine g_pure (p_assign rfl) rfl ?_
        refine g_nil ?_
        refine g_qt ?_
        refine g_ifdL rfl (fun h4 => ?_) (fun h4 => ?_)
        · refine g_seq ?_
          refine g_region ?_
          refine g_pure (p_move rfl) rfl ?_
          refine g_pure (p_indexAddr rfl rfl (by simp) (fun _ => l1)) rfl ?_
          refine g_pure (p_loadN (by rfl) rfl (Has.ro l2) z0') rfl ?_
          first | refine g_eff0 (e_storeO rfl rfl (by rfl) (by rfl) (by rfl) (by repeat' (first | exact Take.here | apply Take.there)) (by rfl)) (fun _ _ => ?_) | refine g_eff0 (e_storeN rfl rfl (by rfl) (by rfl) (by rfl) (by repeat' (first | exact Take.here | apply Take.there)) (by simp)) (fun _ _ => ?_)
          rintro rfl
          refine g_nil ?_
          refine g_qt ?_
          refine g_ret ?_
          refine g_qb_ret ?_
          refine g_qt_ret ?_
          exact g_post (Ho := [Al []]) (rs := [.cell 2 31]) rfl (Res.cellN (by rfl) rfl (Has.own (by repeat' (first | exact Take.here | apply Take.there))) (by rfl) .nil) ⟨by unfold ifU; dsimp only at *; first | (rw [if_pos (by omega)]; rfl) | (rw [if_neg (by omega), if_pos (by omega)]; rfl) | (rw [if_neg (by omega), if_neg (by omega)]; rfl), rfl⟩ (by repeat' (first | exact Cover.nil | exact Take.here | apply Cover.cons | apply Take.there))
        · refine g_skip ?_
          refine g_qb ?_
          refine g_qt ?_
          refine g_seq ?_
          refine g_region ?_
          refine g_call (Hin := []) (Hr := ?hr1) (R := ?rr1) rfl rfl rfl ?hin1 ?hc1 ?hk1
          case hin1 => repeat' (first | exact Cover.nil | exact Take.here | apply Cover.cons | apply Take.there)
          case hc1 => intro ρ' hρ hR; exact undef_ok
          rintro _ _ ⟨rfl, rfl⟩
          first | refine g_eff0 (e_storeO rfl rfl (by rfl) (by rfl) (by rfl) (by repeat' (first | exact Take.here | apply Take.there)) (by rfl)) (fun _ _ => ?_) | refine g_eff0 (e_storeN rfl rfl (by rfl) (by rfl) (by rfl) (by repeat' (first | exact Take.here | apply Take.there)) (by simp)) (fun _ _ => ?_)
          rintro rfl
          refine g_nil ?_
          refine g_qt ?_
          refine g_ret ?_
          exact g_post (Ho := [Al []]) (rs := [.cell 2 31]) rfl (Res.cellN (by rfl) rfl (Has.own (by repeat' (first | exact Take.here | apply Take.there))) (by rfl) .nil) ⟨by unfold ifU; dsimp only at *; first | (rw [if_pos (by omega)]; rfl) | (rw [if_neg (by omega), if_pos (by omega)]; rfl) | (rw [if_neg (by omega), if_neg (by omega)]; rfl), rfl⟩ (by repeat' (first | exact Cover.nil | exact Take.here | apply Cover.cons | apply Take.there))
      · refine g_no rfl rfl rfl rfl ?_
        refine g_no rfl rfl rfl rfl ?_
        refine g_no rfl rfl rfl rfl ?_
        refine g_no rfl rfl rfl rfl ?_
        refine g_no rfl rfl rfl rfl ?_
        first | refine g_pure (p_pickt rfl rfl) rfl ?_ | refine g_pure (p_pickf rfl rfl) rfl ?_
        refine g_pure (p_assign rfl) rfl ?_
        refine g_nil ?_
        refine g_qt ?_
        refine g_iff rfl ?_
        refine g_skip ?_
        refine g_qb ?_
        refine g_qt ?_
        refine g_seq ?_
        refine g_region ?_
        refine g_call (Hin := []) (Hr := ?hr2) (R := ?rr2) rfl rfl rfl ?hin2 ?hc2 ?hk2
        case hin2 => repeat' (first | exact Cover.nil | exact Take.here | apply Cover.cons | apply Take.there)
        case hc2 => intro ρ' hρ hR; exact undef_ok
        rintro _ _ ⟨rfl, rfl⟩
        first | refine g_eff0 (e_storeO rfl rfl (by rfl) (by rfl) (by rfl) (by repeat' (first | exact Take.here | apply Take.there)) (by rfl)) (fun _ _ => ?_) | refine g_eff0 (e_storeN rfl rfl (by rfl) (by rfl) (by rfl) (by repeat' (first | exact Take.here | apply Take.there)) (by simp)) (fun _ _ => ?_)
        rintro rfl
        refine g_nil ?_
        refine g_qt ?_
        refine g_ret ?_
        exact g_post (Ho := [Al []]) (rs := [.cell 2 31]) rfl (Res.cellN (by rfl) rfl (Has.own (by repeat' (first | exact Take.here | apply Take.there))) (by rfl) .nil) ⟨by unfold ifU; dsimp only at *; first | (rw [if_pos (by omega)]; rfl) | (rw [if_neg (by omega), if_pos (by omega)]; rfl) | (rw [if_neg (by omega), if_neg (by omega)]; rfl), rfl⟩ (by repeat' (first | exact Cover.nil | exact Take.here | apply Cover.cons | apply Take.there))
  · refine g_no rfl rfl rfl rfl ?_
    refine g_no rfl rfl rfl rfl ?_
    refine g_no rfl rfl rfl rfl ?_
    refine g_no rfl rfl rfl rfl ?_
    refine g_no rfl rfl rfl rfl ?_
    first | refine g_pure (p_pickt rfl rfl) rfl ?_ | refine g_pure (p_pickf rfl rfl) rfl ?_
    refine g_pure (p_assign rfl) rfl ?_
    refine g_nil ?_
    refine g_qt ?_
    refine g_iff rfl ?_
    refine g_seq ?_
    refine g_region ?_
    refine g_pure (p_move rfl) rfl ?_
    refine g_pure (p_indexAddr rfl rfl (by simp) (fun _ => l1)) rfl ?_
    refine g_pure (p_fieldAddr rfl) rfl ?_
    refine g_pure (p_load (by rfl) rfl (Has.ro l2) x1') rfl ?_
    refine g_pure (p_eql rfl rfl) rfl ?_
    refine g_pure (p_move rfl) rfl ?_
    refine g_splitd rfl rfl (fun h7 => ?_) (fun h7 => ?_)
    · refine g_yes rfl rfl ?_
      refine g_pure (p_move rfl) rfl ?_
      refine g_yes rfl rfl ?_
      refine g_pure (p_indexAddr rfl rfl (by simp) (fun _ => l1)) rfl ?_
      refine g_yes rfl rfl ?_
      refine g_pure (p_fieldAddr rfl) rfl ?_
      refine g_yes rfl rfl ?_
      refine g_pure (p_load (by rfl) rfl (Has.ro l2) x2') rfl ?_
      refine g_yes rfl rfl ?_
      refine g_pure (p_eql rfl rfl) rfl ?_
      first | refine g_pure (p_pickt rfl rfl) rfl ?_ | refine g_pure (p_pickf rfl rfl) rfl ?_
      refine g_pure (p_assign rfl) rfl ?_
      refine g_nil ?_
      refine g_qt ?_
      refine g_ifdL rfl (fun h8 => ?_) (fun h8 => ?_)
      · refine g_seq ?_
        refine g_region ?_
        refine g_pure (p_move rfl) rfl ?_
        refine g_pure (p_indexAddr rfl rfl (by simp) (fun _ => l1)) rfl ?_
        refine g_pure (p_loadN (by rfl) rfl (Has.ro l2) z0') rfl ?_
        first | refine g_eff0 (e_storeO rfl rfl (by rfl) (by rfl) (by rfl) (by repeat' (first | exact Take.here | apply Take.there)) (by rfl)) (fun _ _ => ?_) | refine g_eff0 (e_storeN rfl rfl (by rfl) (by rfl) (by rfl) (by repeat' (first | exact Take.here | apply Take.there)) (by simp)) (fun _ _ => ?_)
        rintro rfl
        refine g_nil ?_
        refine g_qt ?_
        refine g_ret ?_
        refine g_qb_ret ?_
        refine g_qt_ret ?_
        exact g_post (Ho := [Al []]) (rs := [.cell 2 31]) rfl (Res.cellN (by rfl) rfl (Has.own (by repeat' (first | exact Take.here | apply Take.there))) (by rfl) .nil) ⟨by unfold ifU; dsimp only at *; first | (rw [if_pos (by omega)]; rfl) | (rw [if_neg (by omega), if_pos (by omega)]; rfl) | (rw [if_neg (by omega), if_neg (by omega)]; rfl), rfl⟩ (by repeat' (first | exact Cover.nil | exact Take.here | apply Cover.cons | apply Take.there))
      · refine g_skip ?_
        refine g_qb ?_
        refine g_qt ?_
        refine g_seq ?_
        refine g_region ?_
        refine g_call (Hin := []) (Hr := ?hr3) (R := ?rr3) rfl rfl rfl ?hin3 ?hc3 ?hk3
        case hin3 => repeat' (first | exact Cover.nil | exact Take.here | apply Cover.cons | apply Take.there)
        case hc3 => intro ρ' hρ hR; exact undef_ok
        rintro _ _ ⟨rfl, rfl⟩
        first | refine g_eff0 (e_storeO rfl rfl (by rfl) (by rfl) (by rfl) (by repeat' (first | exact Take.here | apply Take.there)) (by rfl)) (fun _ _ => ?_) | refine g_eff0 (e_storeN rfl rfl (by rfl) (by rfl) (by rfl) (by repeat' (first | exact Take.here | apply Take.there)) (by simp)) (fun _ _ => ?_)
        rintro rfl
        refine g_nil ?_
        refine g_qt ?_
        refine g_ret ?_
        exact g_post (Ho := [Al []]) (rs := [.cell 2 31]) rfl (Res.cellN (by rfl) rfl (Has.own (by repeat' (first | exact Take.here | apply Take.there))) (by rfl) .nil) ⟨by unfold ifU; dsimp only at *; first | (rw [if_pos (by omega)]; rfl) | (rw [if_neg (by omega), if_pos (by omega)]; rfl) | (rw [if_neg (by omega), if_neg (by omega)]; rfl), rfl⟩ (by repeat' (first | exact Cover.nil | exact Take.here | apply Cover.cons | apply Take.there))
    · refine g_no rfl rfl rfl rfl ?_
      refine g_no rfl rfl rfl rfl ?_
      refine g_no rfl rfl rfl rfl ?_
      refine g_no rfl rfl rfl rfl ?_
      refine g_no rfl rfl rfl rfl ?_
      first | refine g_pure (p_pickt rfl rfl) rfl ?_ | refine g_pure (p_pickf rfl rfl) rfl ?_
      refine g_pure (p_assign rfl) rfl ?_
      refine g_nil ?_
      refine g_qt ?_
      refine g_iff rfl ?_
      refine g_skip ?_
      refine g_qb ?_
      refine g_qt ?_
      refine g_seq ?_
      refine g_region ?_
      refine g_call (Hin := []) (Hr := ?hr4) (R := ?rr4) rfl rfl rfl ?hin4 ?hc4 ?hk4
      case hin4 => repeat' (first | exact Cover.nil | exact Take.here | apply Cover.cons | apply Take.there)
      case hc4 => intro ρ' hρ hR; exact undef_ok
      rintro _ _ ⟨rfl, rfl⟩
      first | refine g_eff0 (e_storeO rfl rfl (by rfl) (by rfl) (by rfl) (by repeat' (first | exact Take.here | apply Take.there)) (by rfl)) (fun _ _ => ?_) | refine g_eff0 (e_storeN rfl rfl (by rfl) (by rfl) (by rfl) (by repeat' (first | exact Take.here | apply Take.there)) (by simp)) (fun _ _ => ?_)
      rintro rfl
      refine g_nil ?_
      refine g_qt ?_
      refine g_ret ?_
      exact g_post (Ho := [Al []]) (rs := [.cell 2 31]) rfl (Res.cellN (by rfl) rfl (Has.own (by repeat' (first | exact Take.here | apply Take.there))) (by rfl) .nil) ⟨by unfold ifU; dsimp only at *; first | (rw [if_pos (by omega)]; rfl) | (rw [if_neg (by omega), if_pos (by omega)]; rfl) | (rw [if_neg (by omega), if_neg (by omega)]; rfl), rfl⟩ (by repeat' (first | exact Cover.nil | exact Take.here | apply Cover.cons | apply Take.there))
theorem if_ok {ρ : Nat → Obj → Prop} {c a b : List Ce} {ca aa ba : Option Addr} {cc ac bc : Nat} (hc : RSl ρ 2 ca c.length (c.flatMap encC)) (ha : RSl ρ 2 aa a.length (a.flatMap encC)) (hb : RSl ρ 2 ba b.length (b.flatMap encC)) (hl : c.length ≤ 1000000) :
    Con Try.prog ρ 23 #[.slice ca c.length cc, .slice aa a.length ac, .slice ba b.length bc] [] (StrP (IfL c a b)) := by
  have heq : (List.range (lenF [c, a, b])).map (outF true [c, a, b] (ifG c a b)) = IfL c a b := outF_map rfl fun t _ => by
    unfold IfF ifG ifU; (repeat' split) <;> first | rfl | rw [cleanF_idem]
  have hlm : lenF [c, a, b] ≤ 1000000 := by rw [lenF3]; omega
  refine con_intro Try.func23 Try.call23 rfl Try.ntmps23 rfl (L := [(0, _), (1, _), (2, _)]) rfl fun w hh => ?_
  refine g_emp (A := Al []) rfl ?_
  refine g_seq ?_
  refine g_region ?_
  refine g_pure (p_assign rfl) rfl ?_
  refine g_nil ?_
  refine g_qt ?_
  refine g_seq ?_
  refine g_region ?_
  refine g_pure (p_build (by rfl) rfl (by rfl)) rfl ?_
  refine g_pure (p_move rfl) rfl ?_
  refine g_pure (p_move rfl) rfl ?_
  refine g_pure (p_move rfl) rfl ?_
  refine g_eff (e_bs (xs := [.tmp 8, .tmp 9, .tmp 10]) rfl rfl rfl (by rfl) (by rfl) rfl (by rfl)) rfl (fun _ _ => ?_)
  rintro ⟨b11, rfl, rfl⟩
  refine g_call (Hin := [Al []]) (Hr := ?hr5) (R := ?rr5) rfl rfl rfl ?hin5 ?hc5 ?hk5
  case hin5 => repeat' (first | exact Cover.nil | exact Take.here | apply Cover.cons | apply Take.there)
  case hc5 => intro ρ' hρ hR; exact along_ok (l := [c, a, b]) (d := 47) (dcap := #[]) (St := fun _ => Al []) (g := ifG c a b) (SlS.of3 hR.1.blk (hc.mono hρ) (ha.mono hρ) (hb.mono hρ)) (by simp) hlm (fun t ht hj ρ2 h2 ca k hk hc => if1_ok hk hc) (fun t ht _ hj => rfl)
  rintro _ _ ⟨o, oc, rfl, rfl⟩
  rw [heq]
  refine g_pure (p_assign rfl) rfl ?_
  refine g_nil ?_
  refine g_qt ?_
  refine g_ret ?_
  exact g_post (rs := [.tmp 6]) rfl (.tmp rfl .nil) ⟨o, oc, rfl, rfl⟩ (by repeat' (first | exact Cover.nil | exact Take.here | apply Cover.cons | apply Take.there))

theorem dconst_ok {ρ : Nat → Obj → Prop} (x n : Int) :
    Con Try.prog ρ 22 #[.int .i64 x, .int .i64 n] [] (StrP (ConstL x n)) := by
  obtain ⟨m, hm⟩ : ∃ m : Nat, m = (min (max n 0) 4096).toNat := ⟨_, rfl⟩
  have hm2 : min (max n 0) 4096 = (m : Int) := by omega
  refine con_intro Try.func22 Try.call22 rfl Try.ntmps22 rfl (L := [(0, _), (1, _)]) rfl fun w hh => ?_
  refine g_seq ?_
  refine g_region ?_
  refine g_pure (p_assign rfl) rfl ?_
  refine g_nil ?_
  refine g_qt ?_
  refine g_seq ?_
  refine g_region ?_
  refine g_pure (p_assign rfl) rfl ?_
  refine g_nil ?_
  refine g_qt ?_
  refine g_seq ?_
  refine g_seq ?_
  refine g_region ?_
  refine g_pure (p_assign rfl) rfl ?_
  refine g_nil ?_
  refine g_qt ?_
  refine g_block ?_
  refine g_ownnil (e := 31) (size := 2) ?_
  refine g_loop (fun q : Nat × Option Addr × Nat => [(0, .int .i64 x), (1, .int .i64 n), (5, .slice q.2.1 ((List.range q.1).map fun _ => ((1, x) : Ce)).length q.2.2), (6, .int .i64 q.1)]) (fun q => [OwnSl 31 2 q.2.1 ((List.range q.1).map fun _ => ((1, x) : Ce)).length q.2.2 (((List.range q.1).map fun _ => ((1, x) : Ce)).flatMap encC)]) (fun q => q.1 ≤ m) (fun q => m - q.1) (0, none, 0) (Nat.zero_le _) (by (repeat (first | exact trivial | refine ⟨by rfl, ?_⟩)); done) (by repeat' (first | exact Cover.nil | exact Take.here | apply Cover.cons | apply Take.there)) ?_
  rintro ⟨i, oa, oc⟩ hi
  dsimp only at hi ⊢
  have hil : ((List.range i).map fun _ => ((1, x) : Ce)).length = i := by simp
  have hmm : ((List.range (i + 1)).map fun _ => ((1, x) : Ce)) = ((List.range i).map fun _ => ((1, x) : Ce)) ++ [(1, x)] := by rw [List.range_succ, List.map_append]; rfl
  have hm1 : ((List.range i).map fun _ => ((1, x) : Ce)).length + 1 = ((List.range (i + 1)).map fun _ => ((1, x) : Ce)).length := by rw [hmm]; simp
  have hmf : ((List.range i).map fun _ => ((1, x) : Ce)).flatMap encC ++ encC (1, x) = ((List.range (i + 1)).map fun _ => ((1, x) : Ce)).flatMap encC := by rw [hmm]; simp
  have hend : m ≤ i → StrP (ConstL x n) (.slice oa ((List.range i).map fun _ => ((1, x) : Ce)).length oc) [OwnSl 31 2 oa ((List.range i).map fun _ => ((1, x) : Ce)).length oc (((List.range i).map fun _ => ((1, x) : Ce)).flatMap encC)] := fun h => by
    obtain rfl : i = m := by omega
    unfold StrP ConstL
    rw [← hm]
    exact ⟨oa, oc, rfl, rfl⟩
  refine g_seq ?_
  refine g_seq ?_
  refine g_region ?_
  refine g_pure (p_move rfl) rfl ?_
  refine g_pure (p_move rfl) rfl ?_
  refine g_pure (p_lss rfl rfl) rfl ?_
  refine g_pure (p_move rfl) rfl ?_
  refine g_splitd rfl rfl (fun q => ?_) (fun q => ?_)
  · refine g_yes rfl rfl ?_
    refine g_pure (p_move rfl) rfl ?_
    refine g_yes rfl rfl ?_
    refine g_pure (p_lss rfl rfl) rfl ?_
    first | refine g_pure (p_pickt rfl rfl) rfl ?_ | refine g_pure (p_pickf rfl rfl) rfl ?_
    refine g_nil ?_
    refine g_qt ?_
    refine g_ifd rfl (fun r => ?_) (fun r => ?_)
    · refine g_skip ?_
      refine g_qt ?_
      refine g_seq ?_
      refine g_block ?_
      refine g_region ?_
      refine g_pure (p_move rfl) rfl ?_
      refine g_pure (p_move rfl) rfl ?_
      refine g_pure (p_build (by rfl) rfl (by rfl)) rfl ?_
      refine g_eff (e_bs (xs := [.tmp 18]) rfl rfl rfl (by rfl) (by rfl) rfl (by rfl)) rfl (fun _ _ => ?_)
      rintro ⟨b19, rfl, rfl⟩
      refine g_eff (e_appendO (by rfl) (by rfl) rfl rfl (by first | (apply Has.own; (repeat' (first | exact Take.here | apply Take.there)); done) | exact Has.ro (by assumption)) (by rfl) (by rfl) (by repeat' (first | exact Take.here | apply Take.there)) (by omega) (by first | omega | (dsimp only; omega) | (simp <;> omega)) (by omega)) rfl (fun _ _ => ?_)
      rintro ⟨a20, c20, rfl, rfl⟩
      refine g_pure (p_assign rfl) rfl ?_
      refine g_nil ?_
      refine g_qb ?_
      refine g_qt ?_
      refine g_region ?_
      refine g_pure (p_move rfl) rfl ?_
      first | refine g_pure (p_addi rfl rfl (by omega)) rfl ?_ | refine g_pure (p_add rfl rfl) rfl ?_
      refine g_pure (p_assign rfl) rfl ?_
      refine g_nil ?_
      refine g_qn ?_
      rw [hm1]
      refine g_weak (A := OwnSl 31 2 a20 _ c20 (((List.range i).map fun _ => ((1, x) : Ce)).flatMap encC ++ encC (1, x))) (B := OwnSl 31 2 a20 ((List.range (i + 1)).map fun _ => ((1, x) : Ce)).length c20 (((List.range (i + 1)).map fun _ => ((1, x) : Ce)).flatMap encC)) (by repeat' (first | exact Take.here | apply Take.there)) (fun h hh => by rw [← hmf]; exact hh) ?_
      exact g_next (i + 1, a20, c20) (by (repeat (first | exact trivial | refine ⟨by rfl, ?_⟩)); done) (by repeat' (first | exact Cover.nil | exact Take.here | apply Cover.cons | apply Take.there)) (by dsimp only; omega) (by dsimp only; omega)
    · refine g_exit ?_
      refine g_qt_exit ?_
      refine g_qn_exit ?_
      refine g_qb_exit ?_
      refine g_qt ?_
      refine g_seq ?_
      refine g_region ?_
      refine g_pure (p_move rfl) rfl ?_
      refine g_pure (p_assign rfl) rfl ?_
      refine g_nil ?_
      refine g_qt ?_
      refine g_ret ?_
      exact g_post (rs := [.tmp 4]) rfl (.tmp rfl .nil) (hend (by omega)) (by repeat' (first | exact Cover.nil | exact Take.here | apply Cover.cons | apply Take.there))
  · refine g_no rfl rfl rfl rfl ?_
    refine g_no rfl rfl rfl rfl ?_
    first | refine g_pure (p_pickt rfl rfl) rfl ?_ | refine g_pure (p_pickf rfl rfl) rfl ?_
    refine g_nil ?_
    refine g_qt ?_
    refine g_iff rfl ?_
    refine g_exit ?_
    refine g_qt_exit ?_
    refine g_qn_exit ?_
    refine g_qb_exit ?_
    refine g_qt ?_
    refine g_seq ?_
    refine g_region ?_
    refine g_pure (p_move rfl) rfl ?_
    refine g_pure (p_assign rfl) rfl ?_
    refine g_nil ?_
    refine g_qt ?_
    refine g_ret ?_
    exact g_post (rs := [.tmp 4]) rfl (.tmp rfl .nil) (hend (by omega)) (by repeat' (first | exact Cover.nil | exact Take.here | apply Cover.cons | apply Take.there))

theorem dlift_l_ok {ρ : Nat → Obj → Prop} {op : Int} {l : List (List Ce)} {aa : Option Addr} {ac : Nat} (ha : SlS ρ aa l) (hl : l.length ≤ 1000000) (hlm : lenF l ≤ 1000000) :
    Con Try.prog ρ 20 #[.int .i64 op, .slice aa l.length ac] [] (StrP (LiftL op l)) := by
  refine con_intro Try.func20 Try.call20 rfl Try.ntmps20 rfl (L := [(0, _), (1, _)]) rfl fun w hh => ?_
  refine g_seq ?_
  refine g_region ?_
  refine g_pure (p_assign rfl) rfl ?_
  refine g_nil ?_
  refine g_qt ?_
  refine g_seq ?_
  refine g_region ?_
  refine g_pure (p_assign rfl) rfl ?_
  refine g_nil ?_
  refine g_qt ?_
  refine g_seq ?_
  refine g_seq ?_
  refine g_region ?_
  refine g_pure (p_assign rfl) rfl ?_
  refine g_nil ?_
  refine g_qt ?_
  refine g_block ?_
  refine g_ownnil (e := 31) (size := 2) ?_
  refine g_loop (fun q : Nat × Option Addr × Nat => [(0, .int .i64 op), (1, .slice aa l.length ac), (5, .slice q.2.1 ((List.range q.1).map (LiftG op l)).length q.2.2), (6, .int .i64 q.1)]) (fun q => [OwnSl 31 2 q.2.1 ((List.range q.1).map (LiftG op l)).length q.2.2 (((List.range q.1).map (LiftG op l)).flatMap encC)]) (fun q => q.1 ≤ lenF l) (fun q => lenF l - q.1) (0, none, 0) (Nat.zero_le _) (by (repeat (first | exact trivial | refine ⟨by rfl, ?_⟩)); done) (by repeat' (first | exact Cover.nil | exact Take.here | apply Cover.cons | apply Take.there)) ?_
  rintro ⟨t, oa, oc⟩ ht
  dsimp only at ht ⊢
  have hil : ((List.range t).map (LiftG op l)).length = t := by simp
  refine g_seq ?_
  refine g_seq ?_
  refine g_region ?_
  refine g_pure (p_move rfl) rfl ?_
  refine g_pure (p_move rfl) rfl ?_
  refine g_call (Hin := []) (Hr := ?hr6) (R := ?rr6) rfl rfl rfl ?hin6 ?hc6 ?hk6
  case hin6 => repeat' (first | exact Cover.nil | exact Take.here | apply Cover.cons | apply Take.there)
  case hc6 => intro ρ' hρ hR; exact together_ok (ha.mono hρ) hl
  rintro _ _ ⟨rfl, rfl⟩
  refine g_pure (p_lss rfl rfl) rfl ?_
  refine g_nil ?_
  refine g_qt ?_
  refine g_ifd rfl (fun q => ?_) (fun q => ?_)
  · have htl : t < lenF l := by omega
    have hm : (List.range (t + 1)).map (LiftG op l) = (List.range t).map (LiftG op l) ++ [LiftG op l t] := by rw [List.range_succ, List.map_append]; rfl
    have hm1 : ((List.range t).map (LiftG op l)).length + 1 = ((List.range (t + 1)).map (LiftG op l)).length := by rw [hm]; simp
    have hm2 : ((List.range t).map (LiftG op l)).flatMap encC ++ encC (LiftG op l t) = ((List.range (t + 1)).map (LiftG op l)).flatMap encC := by rw [hm]; simp
    refine g_skip ?_
    refine g_qt ?_
    refine g_seq ?_
    refine g_block ?_
    refine g_seq ?_
    refine g_region ?_
    refine g_pure (p_assign rfl) rfl ?_
    refine g_nil ?_
    refine g_qt ?_
    refine g_seq ?_
    refine g_seq ?_
    refine g_region ?_
    refine g_pure (p_assign rfl) rfl ?_
    refine g_nil ?_
    refine g_qt ?_
    refine g_block ?_
    refine g_ownnil (e := 31) (size := 2) ?_
    refine g_loop (fun q : Nat × Option Addr × Nat => [(0, .int .i64 op), (1, .slice aa l.length ac), (5, .slice oa ((List.range t).map (LiftG op l)).length oc), (6, .int .i64 t), (7, .slice q.2.1 (cellsAt (l.take q.1) t).length q.2.2), (8, .int .i64 q.1)]) (fun q => [OwnSl 31 2 q.2.1 (cellsAt (l.take q.1) t).length q.2.2 ((cellsAt (l.take q.1) t).flatMap encC), OwnSl 31 2 oa ((List.range t).map (LiftG op l)).length oc (((List.range t).map (LiftG op l)).flatMap encC)]) (fun q => q.1 ≤ l.length) (fun q => l.length - q.1) (0, none, 0) (Nat.zero_le _) (by (repeat (first | exact trivial | refine ⟨by rfl, ?_⟩)); done) (by repeat' (first | exact Cover.nil | exact Take.here | apply Cover.cons | apply Take.there)) ?_
    rintro ⟨j, ia, ic⟩ hj
    dsimp only at hj ⊢
    have hcl : (cellsAt (l.take j) t).length = j := by rw [cellsAt_len, List.length_take]; omega
    refine g_seq ?_
    refine g_seq ?_
    refine g_region ?_
    refine g_pure (p_move rfl) rfl ?_
    refine g_pure (p_move rfl) rfl ?_
    refine g_pure (p_len (by rfl) rfl) rfl ?_
    refine g_pure (p_lss rfl rfl) rfl ?_
    refine g_nil ?_
    refine g_qt ?_
    refine g_ifd rfl (fun s => ?_) (fun s => ?_)
    · have hjl : j < l.length := by omega
      obtain ⟨b, off, cs, T, fz, r1, r2, r3⟩ := ha.at (by omega)
      obtain ⟨aj, cj, ej, _, b1, o1, k1, T1, f1, h1⟩ := r3 j hjl
      have ej' : cs[off + (j : Int).toNat * 1]? = some (.slice aj l[j].length cj) := ej
      have htj : t < l[j].length := Nat.lt_of_lt_of_le htl (lenF_le _ (List.getElem_mem hjl))
      obtain ⟨l1, l2, l3⟩ := h1 (by omega)
      obtain ⟨x0, -, -⟩ := cell_at l3 htj
      have x0' : sub k1 (o1 + (t : Int).toNat * 2) 2 = some (encC (at0 l[j] t)) := by rw [at0_eq htj]; exact x0
      clear x0
      have hnx : cellsAt (l.take (j + 1)) t = cellsAt (l.take j) t ++ [cleanF (at0 l[j] t)] := by
        unfold cellsAt; rw [List.take_add_one, List.getElem?_eq_getElem hjl, Option.toList_some, List.map_append]; rfl
      have hn1 : (cellsAt (l.take j) t).length + 1 = (cellsAt (l.take (j + 1)) t).length := by rw [hnx]; simp
      have hn2 : (cellsAt (l.take j) t).flatMap encC ++ encC (cleanF (at0 l[j] t)) = (cellsAt (l.take (j + 1)) t).flatMap encC := by rw [hnx]; simp
      generalize at0 l[j] t = u at *
      refine g_skip ?_
      refine g_qt ?_
      refine g_seq ?_
      refine g_block ?_
      refine g_region ?_
      refine g_pure (p_move rfl) rfl ?_
      refine g_pure (p_move rfl) rfl ?_
      refine g_pure (p_move rfl) rfl ?_
      refine g_pure (p_indexAddr rfl rfl (by omega) (fun _ => r1)) rfl ?_
      refine g_pure (p_load (by rfl) rfl (Has.ro r2) ej') rfl ?_
      refine g_pure (p_move rfl) rfl ?_
      refine g_pure (p_indexAddr rfl rfl (by omega) (fun _ => l1)) rfl ?_
      refine g_pure (p_loadN (by rfl) rfl (Has.ro l2) x0') rfl ?_
      refine g_call (Hin := []) (Hr := ?hr7) (R := ?rr7) rfl rfl rfl ?hin7 ?hc7 ?hk7
      case hin7 => repeat' (first | exact Cover.nil | exact Take.here | apply Cover.cons | apply Take.there)
      case hc7 => intro ρ' hρ hR; exact plain_ok u
      rintro _ _ ⟨rfl, rfl⟩
      generalize cleanF u = z at *
      obtain ⟨z1, z2⟩ := z
      unfold aggC
      refine g_eff (e_bs (xs := [.tmp 30]) rfl rfl rfl (by rfl) (by rfl) rfl (by rfl)) rfl (fun _ _ => ?_)
      rintro ⟨b31, rfl, rfl⟩
      refine g_eff (e_appendO (by rfl) (by rfl) rfl rfl (by first | (apply Has.own; (repeat' (first | exact Take.here | apply Take.there)); done) | exact Has.ro (by assumption)) (by rfl) (by rfl) (by repeat' (first | exact Take.here | apply Take.there)) (by omega) (by first | omega | (dsimp only; omega) | (simp <;> omega)) (by omega)) rfl (fun _ _ => ?_)
      rintro ⟨a32, c32, rfl, rfl⟩
      refine g_pure (p_assign rfl) rfl ?_
      refine g_nil ?_
      refine g_qb ?_
      refine g_qt ?_
      refine g_region ?_
      refine g_pure (p_move rfl) rfl ?_
      first | refine g_pure (p_addi rfl rfl (by omega)) rfl ?_ | refine g_pure (p_add rfl rfl) rfl ?_
      refine g_pure (p_assign rfl) rfl ?_
      refine g_nil ?_
      refine g_qn ?_
      rw [hn1]
      refine g_weak (A := OwnSl 31 2 a32 _ c32 ((cellsAt (l.take j) t).flatMap encC ++ encC (z1, z2))) (B := OwnSl 31 2 a32 (cellsAt (l.take (j + 1)) t).length c32 ((cellsAt (l.take (j + 1)) t).flatMap encC)) .here (fun h hh => by rw [← hn2]; exact hh) ?_
      exact g_next (j + 1, a32, c32) (by (repeat (first | exact trivial | refine ⟨by rfl, ?_⟩)); done) (by repeat' (first | exact Cover.nil | exact Take.here | apply Cover.cons | apply Take.there)) (by dsimp only; omega) (by dsimp only; omega)
    · obtain rfl : j = l.length := by omega
      rw [List.take_length] at *
      refine g_exit ?_
      refine g_qt_exit ?_
      refine g_qn_exit ?_
      refine g_qb_exit ?_
      refine g_qt ?_
      refine g_seq ?_
      refine g_region ?_
      refine g_pure (p_build (by rfl) rfl (by rfl)) rfl ?_
      refine g_eff (e_alloc (by rfl)) rfl (fun _ _ => ?_)
      rintro ⟨b9, rfl, rfl⟩
      first | refine g_eff0 (e_storeO rfl rfl (by rfl) (by rfl) (by rfl) (by repeat' (first | exact Take.here | apply Take.there)) (by rfl)) (fun _ _ => ?_) | refine g_eff0 (e_storeN rfl rfl (by rfl) (by rfl) (by rfl) (by repeat' (first | exact Take.here | apply Take.there)) (by simp)) (fun _ _ => ?_)
      rintro rfl
      refine g_nil ?_
      refine g_qt ?_
      refine g_seq ?_
      refine g_seq ?_
      refine g_region ?_
      refine g_pure (p_move rfl) rfl ?_
      refine g_pure (p_move rfl) rfl ?_
      refine g_call (Hin := []) (Hr := ?hr8) (R := ?rr8) rfl rfl rfl ?hin8 ?hc8 ?hk8
      case hin8 => repeat' (first | exact Cover.nil | exact Take.here | apply Cover.cons | apply Take.there)
      case hc8 => intro ρ' hρ hR; exact joint_ok (t := t) (ha.mono hρ) hl htl (by omega)
      rintro _ _ ⟨rfl, rfl⟩
      refine g_nil ?_
      refine g_qt ?_
      refine g_join (fun _ : Unit => [(0, .int .i64 op), (1, .slice aa l.length ac), (5, .slice oa ((List.range t).map (LiftG op l)).length oc), (6, .int .i64 t), (9, .pointer (some ⟨b9, 0, none⟩))]) (fun _ => [Blk b9 (.cells (encC (LiftG op l t)).toArray 31 (0, 0)), OwnSl 31 2 oa ((List.range t).map (LiftG op l)).length oc (((List.range t).map (LiftG op l)).flatMap encC)]) (fun _ => True) ?_ ?_
      · refine g_if rfl (fun r => ?_) (fun r => ?_)
        · have hpre : LiftG op l t = liftF op (cellsAt l t) := by unfold LiftG; rw [if_pos r]
          rw [hpre]
          refine g_region ?_
          refine g_pure (p_move rfl) rfl ?_
          refine g_pure (p_move rfl) rfl ?_
          refine g_call (Hin := []) (Hr := ?hr9) (R := ?rr9) rfl rfl rfl ?hin9 ?hc9 ?hk9
          case hin9 => repeat' (first | exact Cover.nil | exact Take.here | apply Cover.cons | apply Take.there)
          case hc9 => intro ρ' hρ hR; exact dlift_ok op (l := cellsAt l t) (RSl.of_own hR.2.1) (by omega)
          rintro _ _ ⟨rfl, rfl⟩
          generalize liftF op (cellsAt l t) = u at *
          obtain ⟨u1, u2⟩ := u
          unfold aggC
          first | refine g_eff0 (e_storeO rfl rfl (by rfl) (by rfl) (by rfl) (by repeat' (first | exact Take.here | apply Take.there)) (by rfl)) (fun _ _ => ?_) | refine g_eff0 (e_storeN rfl rfl (by rfl) (by rfl) (by rfl) (by repeat' (first | exact Take.here | apply Take.there)) (by simp)) (fun _ _ => ?_)
          rintro rfl
          refine g_nil ?_
          refine g_qn ?_
          exact g_joined () (by (repeat (first | exact trivial | refine ⟨by rfl, ?_⟩)); done) (by repeat' (first | exact Cover.nil | exact Take.here | apply Cover.cons | apply Take.there)) trivial
        · have hpre : LiftG op l t = (0, 0) := by unfold LiftG; rw [if_neg (by rw [r]; simp)]
          rw [hpre]
          refine g_skip ?_
          refine g_qn ?_
          exact g_joined () (by (repeat (first | exact trivial | refine ⟨by rfl, ?_⟩)); done) (by repeat' (first | exact Cover.nil | exact Take.here | apply Cover.cons | apply Take.there)) trivial
      rintro - -
      generalize LiftG op l t = u at *
      obtain ⟨u1, u2⟩ := u
      show G _ _ _ [Blk b9 (.cells [.int .i64 u1, .int .i64 u2].toArray 31 (0, 0)), OwnSl 31 2 oa ((List.range t).map (LiftG op l)).length oc (((List.range t).map (LiftG op l)).flatMap encC)] _
      refine g_qt ?_
      refine g_region ?_
      refine g_pure (p_move rfl) rfl ?_
      first | refine g_pure (p_loadO (by rfl) rfl (by first | (apply Has.own; (repeat' (first | exact Take.here | apply Take.there)); done) | exact Has.ro (by assumption)) (by rfl)) rfl ?_ | refine g_pure (p_loadN (by rfl) rfl (by first | (apply Has.own; (repeat' (first | exact Take.here | apply Take.there)); done) | exact Has.ro (by assumption)) (by first | rfl | assumption)) rfl ?_
      refine g_eff (e_bs (xs := [.tmp 41]) rfl rfl rfl (by rfl) (by rfl) rfl (by rfl)) rfl (fun _ _ => ?_)
      rintro ⟨b42, rfl, rfl⟩
      refine g_eff (e_appendO (by rfl) (by rfl) rfl rfl (by first | (apply Has.own; (repeat' (first | exact Take.here | apply Take.there)); done) | exact Has.ro (by assumption)) (by rfl) (by rfl) (by repeat' (first | exact Take.here | apply Take.there)) (by omega) (by first | omega | (dsimp only; omega) | (simp <;> omega)) (by omega)) rfl (fun _ _ => ?_)
      rintro ⟨a43, c43, rfl, rfl⟩
      refine g_pure (p_assign rfl) rfl ?_
      refine g_nil ?_
      refine g_qb ?_
      refine g_qt ?_
      refine g_region ?_
      refine g_pure (p_move rfl) rfl ?_
      first | refine g_pure (p_addi rfl rfl (by omega)) rfl ?_ | refine g_pure (p_add rfl rfl) rfl ?_
      refine g_pure (p_assign rfl) rfl ?_
      refine g_nil ?_
      refine g_qn ?_
      rw [hm1]
      refine g_weak (A := OwnSl 31 2 a43 _ c43 (((List.range t).map (LiftG op l)).flatMap encC ++ encC (u1, u2))) (B := OwnSl 31 2 a43 ((List.range (t + 1)).map (LiftG op l)).length c43 (((List.range (t + 1)).map (LiftG op l)).flatMap encC)) (by repeat' (first | exact Take.here | apply Take.there)) (fun h hh => by rw [← hm2]; exact hh) ?_
      exact g_next (t + 1, a43, c43) (by (repeat (first | exact trivial | refine ⟨by rfl, ?_⟩)); done) (by repeat' (first | exact Cover.nil | exact Take.here | apply Cover.cons | apply Take.there)) (by dsimp only; omega) (by dsimp only; omega)
  · obtain rfl : t = lenF l := by omega
    refine g_exit ?_
    refine g_qt_exit ?_
    refine g_qn_exit ?_
    refine g_qb_exit ?_
    refine g_qt ?_
    refine g_seq ?_
    refine g_region ?_
    refine g_pure (p_move rfl) rfl ?_
    refine g_pure (p_assign rfl) rfl ?_
    refine g_nil ?_
    refine g_qt ?_
    refine g_ret ?_
    exact g_post (rs := [.tmp 4]) rfl (.tmp rfl .nil) ⟨oa, oc, rfl, rfl⟩ (by repeat' (first | exact Cover.nil | exact Take.here | apply Cover.cons | apply Take.there))
end Go.Proofs.Ytceecdjckhbncaa
