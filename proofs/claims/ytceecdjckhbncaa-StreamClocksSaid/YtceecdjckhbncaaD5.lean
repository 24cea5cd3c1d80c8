/- Chapter 16: the document's selection; StreamLifts. Conditions: none. -/
import Derived.Test.YtceecdjckhbncaaD4
namespace Go.Z.Val
set_option linter.unusedVariables false
set_option linter.unusedSimpArgs false
set_option linter.unusedSectionVars false
open Go Go.Z
theorem IfF_a {c a b : List Ce} {t : Nat} (hj : jointF [c, a, b] t = true) (h1 : (at0 c t).1 = 1) (h2 : (at0 c t).2 = 1) : cleanF (at0 a t) = IfF c a b t := by
  unfold IfF ifG; rw [if_pos hj, ifU_clean]; unfold ifU; rw [if_pos ⟨h1, h2⟩]
theorem IfF_b {c a b : List Ce} {t : Nat} (hj : jointF [c, a, b] t = true) (h1 : (at0 c t).1 = 1) (h2 : (at0 c t).2 = 0) : cleanF (at0 b t) = IfF c a b t := by
  unfold IfF ifG; rw [if_pos hj, ifU_clean]; unfold ifU; rw [if_neg (by omega), if_pos ⟨h1, h2⟩]
theorem IfF_u {c a b : List Ce} {t : Nat} (hj : jointF [c, a, b] t = true) (h : ¬ ((at0 c t).1 = 1 ∧ ((at0 c t).2 = 1 ∨ (at0 c t).2 = 0))) : ((2, 0) : Ce) = IfF c a b t := by
  unfold IfF ifG; rw [if_pos hj, ifU_clean]; unfold ifU; rw [if_neg (by omega), if_neg (by omega)]
end Go.Z.Val
namespace Go.Proofs.Ytceecdjckhbncaa
open Go Go.Z Go.Z.Val

theorem dif_ok {ρ : Nat → Obj → Prop} {c a b : List Ce} {ca aa ba : Option Addr} {cc ac bc : Nat} (hc : RSl ρ 2 ca c.length (c.flatMap encC)) (ha : RSl ρ 2 aa a.length (a.flatMap encC)) (hb : RSl ρ 2 ba b.length (b.flatMap encC)) (hlen : c.length ≤ 1000000) :
    Con Try.prog ρ 24 #[.slice ca c.length cc, .slice aa a.length ac, .slice ba b.length bc] [] (StrP (IfL c a b)) := by
  obtain ⟨_, bl, ol, kl, Tl, fl, hl⟩ := id ha
  obtain ⟨_, bm, om, km, Tm, fm, hm0⟩ := id hb
  obtain ⟨_, bx, ox, kx, Tx, fx, hx0⟩ := id hc
  have hlm := lenF3 c a b
  refine con_intro Try.func24 Try.call24 rfl Try.ntmps24 rfl (L := [(0, _), (1, _), (2, _)]) rfl fun w hh => ?_
  refine g_seq ?_
  refine g_region ?_
  refine g_pure (p_assign rfl) rfl ?_
  refine g_nil ?_
  refine g_qt ?_
  refine g_seq ?_
  refine g_region ?_
  refine g_pure (p_assign rfl) rfl ?_
  refine g_nil ?_
  refine g_qt ?_
  refine g_seq ?_
  refine g_region ?_
  refine g_pure (p_move rfl) rfl ?_
  refine g_pure (p_move rfl) rfl ?_
  refine g_pure (p_move rfl) rfl ?_
  refine g_eff (e_bs (xs := [.tmp 11, .tmp 12, .tmp 13]) rfl rfl rfl (by rfl) (by rfl) rfl (by rfl)) rfl (fun _ _ => ?_)
  rintro ⟨b14, rfl, rfl⟩
  refine g_pure (p_assign rfl) rfl ?_
  refine g_nil ?_
  refine g_qt ?_
  refine g_seq ?_
  refine g_seq ?_
  refine g_region ?_
  refine g_pure (p_assign rfl) rfl ?_
  refine g_nil ?_
  refine g_qt ?_
  refine g_block ?_
  refine g_ownnil (e := 31) (size := 2) ?_
  refine g_loop (fun q : Nat × Option Addr × Nat => [(0, .slice ca c.length cc), (1, .slice aa a.length ac), (2, .slice ba b.length bc), (7, .slice q.2.1 ((List.range q.1).map (IfF c a b)).length q.2.2), (8, .slice (some ⟨b14, 0, none⟩) 3 3), (9, .int .i64 q.1)]) (fun q => [Blk b14 (.cells [.slice ca c.length cc, .slice aa a.length ac, .slice ba b.length bc].toArray 22 (0, 0)), OwnSl 31 2 q.2.1 ((List.range q.1).map (IfF c a b)).length q.2.2 (((List.range q.1).map (IfF c a b)).flatMap encC)]) (fun q => q.1 ≤ lenF [c, a, b]) (fun q => lenF [c, a, b] - q.1) (0, none, 0) (Nat.zero_le _) (by (repeat (first | exact trivial | refine ⟨by rfl, ?_⟩)); done) (by repeat' (first | exact Cover.nil | exact Take.here | apply Cover.cons | apply Take.there)) ?_
  rintro ⟨t, oa, oc⟩ ht
  dsimp only at ht ⊢
  have hil : ((List.range t).map (IfF c a b)).length = t := by simp
  refine g_seq ?_
  refine g_seq ?_
  refine g_region ?_
  refine g_pure (p_move rfl) rfl ?_
  refine g_pure (p_move rfl) rfl ?_
  refine g_call (Hin := []) (Hr := ?hr1) (R := ?rr1) rfl rfl rfl ?hin1 ?hc1 ?hk1
  case hin1 => repeat' (first | exact Cover.nil | exact Take.here | apply Cover.cons | apply Take.there)
  case hc1 => intro ρ' hρ hR; exact together_ok (l := [c, a, b]) (SlS.of3 hR.1.blk (hc.mono hρ) (ha.mono hρ) (hb.mono hρ)) (by simp)
  rintro _ _ ⟨rfl, rfl⟩
  refine g_pure (p_lss rfl rfl) rfl ?_
  refine g_nil ?_
  refine g_qt ?_
  refine g_ifd rfl (fun q => ?_) (fun q => ?_)
  · have htlm : t < lenF [c, a, b] := by omega
    have hmin := htlm
    rw [hlm] at hmin
    have htx : t < c.length := by omega
    have htl : t < a.length := by omega
    have htm : t < b.length := by omega
    obtain ⟨l1, l2, l3⟩ := hl (by omega)
    obtain ⟨m1, m2, m3⟩ := hm0 (by omega)
    obtain ⟨n1, n2, n3⟩ := hx0 (by omega)
    obtain ⟨x0, -, -⟩ := cell_at l3 htl
    obtain ⟨y0, -, -⟩ := cell_at m3 htm
    obtain ⟨-, z1, z2⟩ := cell_at n3 htx
    have x0' : sub kl (ol + (t : Int).toNat * 2) 2 = some (encC (at0 a t)) := by rw [at0_eq htl]; exact x0
    have y0' : sub km (om + (t : Int).toNat * 2) 2 = some (encC (at0 b t)) := by rw [at0_eq htm]; exact y0
    have z1' : kx[ox + (t : Int).toNat * 2]? = some (.int .i64 (at0 c t).1) := by rw [at0_eq htx]; exact z1
    have z2' : kx[ox + (t : Int).toNat * 2 + 1]? = some (.int .i64 (at0 c t).2) := by rw [at0_eq htx]; exact z2
    clear x0 y0 z1 z2
    have hm : (List.range (t + 1)).map (IfF c a b) = (List.range t).map (IfF c a b) ++ [IfF c a b t] := by rw [List.range_succ, List.map_append]; rfl
    have hm1 : ((List.range t).map (IfF c a b)).length + 1 = ((List.range (t + 1)).map (IfF c a b)).length := by rw [hm]; simp
    have hm2 : ((List.range t).map (IfF c a b)).flatMap encC ++ encC (IfF c a b t) = ((List.range (t + 1)).map (IfF c a b)).flatMap encC := by rw [hm]; simp
    refine g_skip ?_
    refine g_qt ?_
    refine g_seq ?_
    refine g_block ?_
    refine g_seq ?_
    refine g_region ?_
    refine g_pure (p_build (by rfl) rfl (by rfl)) rfl ?_
    refine g_eff (e_alloc (by rfl)) rfl (fun _ _ => ?_)
    rintro ⟨b10, rfl, rfl⟩
    first | refine g_eff0 (e_storeO rfl rfl (by rfl) (by rfl) (by rfl) (by repeat' (first | exact Take.here | apply Take.there)) (by rfl)) (fun _ _ => ?_) | refine g_eff0 (e_storeN rfl rfl (by rfl) (by rfl) (by rfl) (by repeat' (first | exact Take.here | apply Take.there)) (by simp)) (fun _ _ => ?_)
    rintro rfl
    refine g_nil ?_
    refine g_qt ?_
    refine g_seq ?_
    refine g_seq ?_
    refine g_region ?_
    refine g_pure (p_move rfl) rfl ?_
    refine g_pure (p_move rfl) rfl ?_
    refine g_call (Hin := []) (Hr := ?hr2) (R := ?rr2) rfl rfl rfl ?hin2 ?hc2 ?hk2
    case hin2 => repeat' (first | exact Cover.nil | exact Take.here | apply Cover.cons | apply Take.there)
    case hc2 => intro ρ' hρ hR; exact joint_ok (t := t) (l := [c, a, b]) (SlS.of3 hR.2.1.blk (hc.mono hρ) (ha.mono hρ) (hb.mono hρ)) (by simp) htlm (by omega)
    rintro _ _ ⟨rfl, rfl⟩
    refine g_nil ?_
    refine g_qt ?_
    refine g_join (fun _ : Ce => [(0, .slice ca c.length cc), (1, .slice aa a.length ac), (2, .slice ba b.length bc), (7, .slice oa ((List.range t).map (IfF c a b)).length oc), (8, .slice (some ⟨b14, 0, none⟩) 3 3), (9, .int .i64 t), (10, .pointer (some ⟨b10, 0, none⟩))]) (fun y => [Blk b10 (.cells (encC y).toArray 31 (0, 0)), Blk b14 (.cells [.slice ca c.length cc, .slice aa a.length ac, .slice ba b.length bc].toArray 22 (0, 0)), OwnSl 31 2 oa ((List.range t).map (IfF c a b)).length oc (((List.range t).map (IfF c a b)).flatMap encC)]) (fun y => y = IfF c a b t) ?_ ?_
    · refine g_if rfl (fun r => ?_) (fun r => ?_)
      · refine g_seq ?_
        refine g_region ?_
        refine g_pure (p_build (by rfl) rfl (by rfl)) rfl ?_
        first | refine g_eff0 (e_storeO rfl rfl (by rfl) (by rfl) (by rfl) (by repeat' (first | exact Take.here | apply Take.there)) (by rfl)) (fun _ _ => ?_) | refine g_eff0 (e_storeN rfl rfl (by rfl) (by rfl) (by rfl) (by repeat' (first | exact Take.here | apply Take.there)) (by simp)) (fun _ _ => ?_)
        rintro rfl
        refine g_nil ?_
        refine g_qt ?_
        refine g_seq ?_
        refine g_seq ?_
        refine g_region ?_
        refine g_pure (p_move rfl) rfl ?_
        refine g_pure (p_move rfl) rfl ?_
        refine g_pure (p_indexAddr rfl rfl (by omega) (fun _ => n1)) rfl ?_
        refine g_pure (p_fieldAddr rfl) rfl ?_
        refine g_pure (p_load (by rfl) rfl (Has.ro n2) z1') rfl ?_
        refine g_pure (p_eql rfl rfl) rfl ?_
        refine g_pure (p_move rfl) rfl ?_
        refine g_splitd rfl rfl (fun g1 => ?_) (fun g1 => ?_)
        · refine g_yes rfl rfl ?_
          refine g_pure (p_move rfl) rfl ?_
          refine g_yes rfl rfl ?_
          refine g_pure (p_move rfl) rfl ?_
          refine g_yes rfl rfl ?_
          refine g_pure (p_indexAddr rfl rfl (by omega) (fun _ => n1)) rfl ?_
          refine g_yes rfl rfl ?_
          refine g_pure (p_fieldAddr rfl) rfl ?_
          refine g_yes rfl rfl ?_
          refine g_pure (p_load (by rfl) rfl (Has.ro n2) z2') rfl ?_
          refine g_yes rfl rfl ?_
          refine g_pure (p_eql rfl rfl) rfl ?_
          first | refine g_pure (p_pickt rfl rfl) rfl ?_ | refine g_pure (p_pickf rfl rfl) rfl ?_
          refine g_nil ?_
          refine g_qt ?_
          refine g_ifd rfl (fun v1 => ?_) (fun v1 => ?_)
          · refine g_region ?_
            refine g_pure (p_move rfl) rfl ?_
            refine g_pure (p_move rfl) rfl ?_
            refine g_pure (p_indexAddr rfl rfl (by omega) (fun _ => l1)) rfl ?_
            refine g_pure (p_loadN (by rfl) rfl (Has.ro l2) x0') rfl ?_
            refine g_call (Hin := []) (Hr := ?hr3) (R := ?rr3) rfl rfl rfl ?hin3 ?hc3 ?hk3
            case hin3 => repeat' (first | exact Cover.nil | exact Take.here | apply Cover.cons | apply Take.there)
            case hc3 => intro ρ' hρ hR; exact plain_ok (at0 a t)
            rintro _ _ ⟨rfl, rfl⟩
            first | refine g_eff0 (e_storeO rfl rfl (by rfl) (by rfl) (by rfl) (by repeat' (first | exact Take.here | apply Take.there)) (by rfl)) (fun _ _ => ?_) | refine g_eff0 (e_storeN rfl rfl (by rfl) (by rfl) (by rfl) (by repeat' (first | exact Take.here | apply Take.there)) (by simp)) (fun _ _ => ?_)
            rintro rfl
            refine g_nil ?_
            refine g_qt ?_
            refine g_seq ?_
            refine g_region ?_
            refine g_pure (p_move rfl) rfl ?_
            refine g_pure (p_move rfl) rfl ?_
            refine g_pure (p_indexAddr rfl rfl (by omega) (fun _ => n1)) rfl ?_
            refine g_pure (p_fieldAddr rfl) rfl ?_
            refine g_pure (p_load (by rfl) rfl (Has.ro n2) z1') rfl ?_
            refine g_pure (p_eql rfl rfl) rfl ?_
            refine g_pure (p_move rfl) rfl ?_
            refine g_splitd rfl rfl (fun g2 => ?_) (fun g2 => ?_)
            · refine g_yes rfl rfl ?_
              refine g_pure (p_move rfl) rfl ?_
              refine g_yes rfl rfl ?_
              refine g_pure (p_move rfl) rfl ?_
              refine g_yes rfl rfl ?_
              refine g_pure (p_indexAddr rfl rfl (by omega) (fun _ => n1)) rfl ?_
              refine g_yes rfl rfl ?_
              refine g_pure (p_fieldAddr rfl) rfl ?_
              refine g_yes rfl rfl ?_
              refine g_pure (p_load (by rfl) rfl (Has.ro n2) z2') rfl ?_
              refine g_yes rfl rfl ?_
              refine g_pure (p_eql rfl rfl) rfl ?_
              first | refine g_pure (p_pickt rfl rfl) rfl ?_ | refine g_pure (p_pickf rfl rfl) rfl ?_
              refine g_nil ?_
              refine g_qt ?_
              refine g_ifd rfl (fun v2 => ?_) (fun v2 => ?_)
              · exfalso; omega
              · refine g_skip ?_
                refine g_qn ?_
                exact g_joined (cleanF (at0 a t)) (by (repeat (first | exact trivial | refine ⟨by rfl, ?_⟩)); done) (by repeat' (first | exact Cover.nil | exact Take.here | apply Cover.cons | apply Take.there)) (IfF_a r g1 v1)
            · exact absurd g1 g2
          · refine g_skip ?_
            refine g_qt ?_
            refine g_seq ?_
            refine g_region ?_
            refine g_pure (p_move rfl) rfl ?_
            refine g_pure (p_move rfl) rfl ?_
            refine g_pure (p_indexAddr rfl rfl (by omega) (fun _ => n1)) rfl ?_
            refine g_pure (p_fieldAddr rfl) rfl ?_
            refine g_pure (p_load (by rfl) rfl (Has.ro n2) z1') rfl ?_
            refine g_pure (p_eql rfl rfl) rfl ?_
            refine g_pure (p_move rfl) rfl ?_
            refine g_splitd rfl rfl (fun g2 => ?_) (fun g2 => ?_)
            · refine g_yes rfl rfl ?_
              refine g_pure (p_move rfl) rfl ?_
              refine g_yes rfl rfl ?_
              refine g_pure (p_move rfl) rfl ?_
              refine g_yes rfl rfl ?_
              refine g_pure (p_indexAddr rfl rfl (by omega) (fun _ => n1)) rfl ?_
              refine g_yes rfl rfl ?_
              refine g_pure (p_fieldAddr rfl) rfl ?_
              refine g_yes rfl rfl ?_
              refine g_pure (p_load (by rfl) rfl (Has.ro n2) z2') rfl ?_
              refine g_yes rfl rfl ?_
              refine g_pure (p_eql rfl rfl) rfl ?_
              first | refine g_pure (p_pickt rfl rfl) rfl ?_ | refine g_pure (p_pickf rfl rfl) rfl ?_
              refine g_nil ?_
              refine g_qt ?_
              refine g_ifd rfl (fun v2 => ?_) (fun v2 => ?_)
              · refine g_region ?_
                refine g_pure (p_move rfl) rfl ?_
                refine g_pure (p_move rfl) rfl ?_
                refine g_pure (p_indexAddr rfl rfl (by omega) (fun _ => m1)) rfl ?_
                refine g_pure (p_loadN (by rfl) rfl (Has.ro m2) y0') rfl ?_
                refine g_call (Hin := []) (Hr := ?hr4) (R := ?rr4) rfl rfl rfl ?hin4 ?hc4 ?hk4
                case hin4 => repeat' (first | exact Cover.nil | exact Take.here | apply Cover.cons | apply Take.there)
                case hc4 => intro ρ' hρ hR; exact plain_ok (at0 b t)
                rintro _ _ ⟨rfl, rfl⟩
                first | refine g_eff0 (e_storeO rfl rfl (by rfl) (by rfl) (by rfl) (by repeat' (first | exact Take.here | apply Take.there)) (by rfl)) (fun _ _ => ?_) | refine g_eff0 (e_storeN rfl rfl (by rfl) (by rfl) (by rfl) (by repeat' (first | exact Take.here | apply Take.there)) (by simp)) (fun _ _ => ?_)
                rintro rfl
                refine g_nil ?_
                refine g_qn ?_
                exact g_joined (cleanF (at0 b t)) (by (repeat (first | exact trivial | refine ⟨by rfl, ?_⟩)); done) (by repeat' (first | exact Cover.nil | exact Take.here | apply Cover.cons | apply Take.there)) (IfF_b r g1 v2)
              · refine g_skip ?_
                refine g_qn ?_
                exact g_joined (2, 0) (by (repeat (first | exact trivial | refine ⟨by rfl, ?_⟩)); done) (by repeat' (first | exact Cover.nil | exact Take.here | apply Cover.cons | apply Take.there)) (IfF_u r (by omega))
            · exact absurd g1 g2
        · refine g_no rfl rfl rfl rfl ?_
          refine g_no rfl rfl rfl rfl ?_
          refine g_no rfl rfl rfl rfl ?_
          refine g_no rfl rfl rfl rfl ?_
          refine g_no rfl rfl rfl rfl ?_
          refine g_no rfl rfl rfl rfl ?_
          first | refine g_pure (p_pickt rfl rfl) rfl ?_ | refine g_pure (p_pickf rfl rfl) rfl ?_
          refine g_nil ?_
          refine g_qt ?_
          refine g_iff rfl ?_
          refine g_skip ?_
          refine g_qt ?_
          refine g_seq ?_
          refine g_region ?_
          refine g_pure (p_move rfl) rfl ?_
          refine g_pure (p_move rfl) rfl ?_
          refine g_pure (p_indexAddr rfl rfl (by omega) (fun _ => n1)) rfl ?_
          refine g_pure (p_fieldAddr rfl) rfl ?_
          refine g_pure (p_load (by rfl) rfl (Has.ro n2) z1') rfl ?_
          refine g_pure (p_eql rfl rfl) rfl ?_
          refine g_pure (p_move rfl) rfl ?_
          refine g_splitd rfl rfl (fun g2 => ?_) (fun g2 => ?_)
          · exact absurd g2 g1
          · refine g_no rfl rfl rfl rfl ?_
            refine g_no rfl rfl rfl rfl ?_
            refine g_no rfl rfl rfl rfl ?_
            refine g_no rfl rfl rfl rfl ?_
            refine g_no rfl rfl rfl rfl ?_
            refine g_no rfl rfl rfl rfl ?_
            first | refine g_pure (p_pickt rfl rfl) rfl ?_ | refine g_pure (p_pickf rfl rfl) rfl ?_
            refine g_nil ?_
            refine g_qt ?_
            refine g_iff rfl ?_
            refine g_skip ?_
            refine g_qn ?_
            exact g_joined (2, 0) (by (repeat (first | exact trivial | refine ⟨by rfl, ?_⟩)); done) (by repeat' (first | exact Cover.nil | exact Take.here | apply Cover.cons | apply Take.there)) (IfF_u r (by omega))
      · refine g_skip ?_
        refine g_qn ?_
        exact g_joined (0, 0) (by (repeat (first | exact trivial | refine ⟨by rfl, ?_⟩)); done) (by repeat' (first | exact Cover.nil | exact Take.here | apply Cover.cons | apply Take.there)) (by unfold IfF; rw [if_neg (by rw [r]; simp)])
    rintro u hu
    rw [← hu] at hm2
    obtain ⟨u1, u2⟩ := u
    show G _ _ _ [Blk b10 (.cells [.int .i64 u1, .int .i64 u2].toArray 31 (0, 0)), Blk b14 (.cells [.slice ca c.length cc, .slice aa a.length ac, .slice ba b.length bc].toArray 22 (0, 0)), OwnSl 31 2 oa ((List.range t).map (IfF c a b)).length oc (((List.range t).map (IfF c a b)).flatMap encC)] _
    refine g_qt ?_
    refine g_region ?_
    refine g_pure (p_move rfl) rfl ?_
    first | refine g_pure (p_loadO (by rfl) rfl (by first | (apply Has.own; (repeat' (first | exact Take.here | apply Take.there)); done) | exact Has.ro (by assumption)) (by rfl)) rfl ?_ | refine g_pure (p_loadN (by rfl) rfl (by first | (apply Has.own; (repeat' (first | exact Take.here | apply Take.there)); done) | exact Has.ro (by assumption)) (by first | rfl | assumption)) rfl ?_
    refine g_eff (e_bs (xs := [.tmp 65]) rfl rfl rfl (by rfl) (by rfl) rfl (by rfl)) rfl (fun _ _ => ?_)
    rintro ⟨b66, rfl, rfl⟩
    refine g_eff (e_appendO (by rfl) (by rfl) rfl rfl (by first | (apply Has.own; (repeat' (first | exact Take.here | apply Take.there)); done) | exact Has.ro (by assumption)) (by rfl) (by rfl) (by repeat' (first | exact Take.here | apply Take.there)) (by omega) (by first | omega | (dsimp only; omega) | (simp <;> omega)) (by omega)) rfl (fun _ _ => ?_)
    rintro ⟨a67, c67, rfl, rfl⟩
    refine g_pure (p_assign rfl) rfl ?_
    refine g_nil ?_
    refine g_qb ?_
    refine g_qt ?_
    refine g_region ?_
    refine g_pure (p_move rfl) rfl ?_
    first | refine g_pure (p_addi rfl rfl (by omega)) rfl ?_ | refine g_pure (p_add rfl rfl) rfl ?_
    refine g_pure (p_assign rfl) rfl ?_
    refine g_nil ?_
    refine g_qn ?_
    rw [hm1]
    refine g_weak (A := OwnSl 31 2 a67 _ c67 (((List.range t).map (IfF c a b)).flatMap encC ++ encC (u1, u2))) (B := OwnSl 31 2 a67 ((List.range (t + 1)).map (IfF c a b)).length c67 (((List.range (t + 1)).map (IfF c a b)).flatMap encC)) (by repeat' (first | exact Take.here | apply Take.there)) (fun h hh => by rw [← hm2]; exact hh) ?_
    exact g_next (t + 1, a67, c67) (by (repeat (first | exact trivial | refine ⟨by rfl, ?_⟩)); done) (by repeat' (first | exact Cover.nil | exact Take.here | apply Cover.cons | apply Take.there)) (by dsimp only; omega) (by dsimp only; omega)
  · obtain rfl : t = lenF [c, a, b] := by omega
    refine g_exit ?_
    refine g_qt_exit ?_
    refine g_qn_exit ?_
    refine g_qb_exit ?_
    refine g_qt ?_
    refine g_seq ?_
    refine g_region ?_
    refine g_pure (p_move rfl) rfl ?_
    refine g_pure (p_assign rfl) rfl ?_
    refine g_nil ?_
    refine g_qt ?_
    refine g_ret ?_
    exact g_post (rs := [.tmp 6]) rfl (.tmp rfl .nil) ⟨oa, oc, rfl, rfl⟩ (by repeat' (first | exact Cover.nil | exact Take.here | apply Cover.cons | apply Take.there))

theorem slifts_ok {ρ : Nat → Obj → Prop} {op x n : Int} {l : List (List Ce)} {aa : Option Addr} {ac : Nat} (ha : SlS ρ aa l) :
    Con Try.prog ρ 6 #[.int .i64 op, .slice aa l.length ac, .int .i64 x, .int .i64 n] [] (fun v _ => v = .bool true) := by
  refine con_intro Try.func6 Try.call6 rfl Try.ntmps6 rfl (L := [(0, _), (1, _), (2, _), (3, _)]) rfl fun w hh => ?_
  refine g_seq ?_
  refine g_region ?_
  refine g_pure (p_assign rfl) rfl ?_
  refine g_nil ?_
  refine g_qt ?_
  refine g_seq ?_
  refine g_seq ?_
  refine g_region ?_
  refine g_pure (p_move rfl) rfl ?_
  refine g_call (Hin := []) (Hr := ?hr5) (R := ?rr5) rfl rfl rfl ?hin5 ?hc5 ?hk5
  case hin5 => repeat' (first | exact Cover.nil | exact Take.here | apply Cover.cons | apply Take.there)
  case hc5 => intro ρ' hρ hR; exact long_ok (ha.mono hρ)
  rintro _ _ ⟨lg, rfl, rfl, hlg⟩
  refine g_nil ?_
  refine g_qt ?_
  cases lg with
  | true =>
    refine g_ift rfl ?_
    refine g_seq ?_
    refine g_region ?_
    refine g_call (Hin := []) (Hr := ?hr6) (R := ?rr6) rfl rfl rfl ?hin6 ?hc6 ?hk6
    case hin6 => repeat' (first | exact Cover.nil | exact Take.here | apply Cover.cons | apply Take.there)
    case hc6 => intro ρ' hρ hR; exact lives_ok
    rintro _ _ ⟨rfl, rfl⟩
    refine g_pure (p_assign rfl) rfl ?_
    refine g_nil ?_
    refine g_qt ?_
    refine g_ret ?_
    refine g_qt_ret ?_
    exact g_post (Ho := []) (rs := [.tmp 8]) rfl (.tmp rfl .nil) rfl .nil
  | false =>
    obtain ⟨hl8, hlens⟩ := hlg rfl
    have hlm : lenF l ≤ 300 := by
      cases l with
      | nil => exact Nat.zero_le _
      | cons u l => exact Nat.le_trans (lenF_le u (by simp)) (hlens u (by simp))
    have hL : (LiftL op l).length ≤ 1000000 := by simp [LiftL]; omega
    have hC : (ConstL x n).length ≤ 1000000 := by simp [ConstL]; omega
    refine g_iff rfl ?_
    refine g_skip ?_
    refine g_qt ?_
    refine g_seq ?_
    refine g_seq ?_
    refine g_region ?_
    refine g_pure (p_move rfl) rfl ?_
    refine g_pure (p_move rfl) rfl ?_
    refine g_call (Hin := []) (Hr := ?hr7) (R := ?rr7) rfl rfl rfl ?hin7 ?hc7 ?hk7
    case hin7 => repeat' (first | exact Cover.nil | exact Take.here | apply Cover.cons | apply Take.there)
    case hc7 => intro ρ' hρ hR; exact slift_ok (op := op) (ha.mono hρ) (by omega) (by omega)
    rintro _ _ ⟨o1, c1, rfl, rfl⟩
    refine g_pure (p_move rfl) rfl ?_
    refine g_pure (p_move rfl) rfl ?_
    refine g_call (Hin := []) (Hr := ?hr8) (R := ?rr8) rfl rfl rfl ?hin8 ?hc8 ?hk8
    case hin8 => repeat' (first | exact Cover.nil | exact Take.here | apply Cover.cons | apply Take.there)
    case hc8 => intro ρ' hρ hR; exact dlift_l_ok (op := op) (ha.mono hρ) (by omega) (by omega)
    rintro _ _ ⟨o2, c2, rfl, rfl⟩
    refine g_call (Hin := []) (Hr := ?hr9) (R := ?rr9) rfl rfl rfl ?hin9 ?hc9 ?hk9
    case hin9 => repeat' (first | exact Cover.nil | exact Take.here | apply Cover.cons | apply Take.there)
    case hc9 => intro ρ' hρ hR; exact same_ok (xs := LiftL op l) (ys := LiftL op l) rfl rfl (RSl.of_own hR.2.1) (RSl.of_own hR.1) hL hL
    rintro _ _ ⟨rfl, rfl⟩
    rw [decide_eq_true rfl]
    refine g_pure (p_not rfl) rfl ?_
    refine g_pure (p_move rfl) rfl ?_
    refine g_yes rfl rfl ?_
    refine g_pure (p_move rfl) rfl ?_
    refine g_yes rfl rfl ?_
    refine g_pure (p_move rfl) rfl ?_
    refine g_yes rfl rfl ?_
    refine g_call (Hin := []) (Hr := ?hr10) (R := ?rr10) rfl rfl rfl ?hin10 ?hc10 ?hk10
    case hin10 => repeat' (first | exact Cover.nil | exact Take.here | apply Cover.cons | apply Take.there)
    case hc10 => intro ρ' hρ hR; exact const_ok x n
    rintro _ _ ⟨o3, c3, rfl, rfl⟩
    refine g_yes rfl rfl ?_
    refine g_pure (p_move rfl) rfl ?_
    refine g_yes rfl rfl ?_
    refine g_pure (p_move rfl) rfl ?_
    refine g_yes rfl rfl ?_
    refine g_call (Hin := []) (Hr := ?hr11) (R := ?rr11) rfl rfl rfl ?hin11 ?hc11 ?hk11
    case hin11 => repeat' (first | exact Cover.nil | exact Take.here | apply Cover.cons | apply Take.there)
    case hc11 => intro ρ' hρ hR; exact dconst_ok x n
    rintro _ _ ⟨o4, c4, rfl, rfl⟩
    refine g_yes rfl rfl ?_
    refine g_call (Hin := []) (Hr := ?hr12) (R := ?rr12) rfl rfl rfl ?hin12 ?hc12 ?hk12
    case hin12 => repeat' (first | exact Cover.nil | exact Take.here | apply Cover.cons | apply Take.there)
    case hc12 => intro ρ' hρ hR; exact same_ok (xs := ConstL x n) (ys := ConstL x n) rfl rfl (RSl.of_own hR.2.1) (RSl.of_own hR.1) hC hC
    rintro _ _ ⟨rfl, rfl⟩
    rw [decide_eq_true rfl]
    refine g_yes rfl rfl ?_
    refine g_pure (p_not rfl) rfl ?_
    first | refine g_pure (p_pickt rfl rfl) rfl ?_ | refine g_pure (p_pickf rfl rfl) rfl ?_
    refine g_nil ?_
    refine g_qt ?_
    refine g_iff rfl ?_
    refine g_skip ?_
    refine g_qt ?_
    refine g_seq ?_
    refine m_begin0 (.fl 0 0 (.fl 1 0 (.fl 2 0 (.fl 3 0 (.fl 4 0 (.fl 5 0 (.fl 6 1 (.fl 7 0 (.fl 8 0 (.fl 9 1 (.fl 10 0 (.fl 11 0 (.fl 12 1 (.fl 14 0 (.fl 15 0 (.fl 16 1 (.fl 17 0 (.fl 18 0 (.fl 19 1 (.fl 20 0 (.fl 21 0 (.fl 22 1 (.ef 13 (.ef 23 (.ef 24 (.fl 25 0 (.fl 26 0 (.ef 27 (.fl 28 0 (.fl 29 0 .done)))))))))))))))))))))))))))))) (by kernel_rfl) (by kernel_rfl) ?_
    refine m_float0 rfl (fun _ _ => p_move rfl) rfl ?_
    refine m_float0 rfl (fun _ _ => p_len (by rfl) rfl) rfl ?_
    refine m_float0 rfl (fun _ _ => p_lss rfl rfl) rfl ?_
    refine m_float0 rfl (fun _ _ => p_move rfl) rfl ?_
    refine m_splitd 3 rfl rfl (fun k => ?_) (fun k => ?_)
    · refine m_no0 rfl rfl rfl rfl rfl ?_
      refine m_no0 rfl rfl rfl rfl rfl ?_
      refine m_no rfl rfl rfl rfl rfl ?_
      refine m_no0 rfl rfl rfl rfl rfl ?_
      refine m_no0 rfl rfl rfl rfl rfl ?_
      refine m_no rfl rfl rfl rfl rfl ?_
      refine m_no0 rfl rfl rfl rfl rfl ?_
      refine m_no0 rfl rfl rfl rfl rfl ?_
      refine m_no rfl rfl rfl rfl rfl ?_
      refine m_no0 rfl rfl rfl rfl rfl ?_
      refine m_no0 rfl rfl rfl rfl rfl ?_
      refine m_no rfl rfl rfl rfl rfl ?_
      refine m_no0 rfl rfl rfl rfl rfl ?_
      refine m_no0 rfl rfl rfl rfl rfl ?_
      refine m_no rfl rfl rfl rfl rfl ?_
      refine m_no0 rfl rfl rfl rfl rfl ?_
      refine m_no0 rfl rfl rfl rfl rfl ?_
      refine m_no rfl rfl rfl rfl rfl ?_
      refine m_noe rfl rfl rfl rfl rfl (.some (by repeat' (first | exact Cover.nil | exact Take.here | apply Cover.cons | apply Take.there))) ?_
      refine m_noe rfl rfl rfl rfl rfl (.none (by kernel_rfl)) ?_
      refine m_noe rfl rfl rfl rfl rfl (.none (by kernel_rfl)) ?_
      first | refine m_float0 rfl (fun _ _ => p_pickt rfl rfl) rfl ?_ | refine m_float0 rfl (fun _ _ => p_pickf rfl rfl) rfl ?_
      refine m_float0 rfl (fun _ _ => p_move rfl) rfl ?_
      refine m_call (Hin := []) (Hr := ?hr13) (R := ?rr13) rfl (wantedY rfl rfl) rfl rfl rfl ?hin13 ?hc13 ?hk13
      case hin13 => repeat' (first | exact Cover.nil | exact Take.here | apply Cover.cons | apply Take.there)
      case hc13 => intro ρ' hρ hR; exact lives_ok
      rintro _ _ ⟨rfl, rfl⟩
      refine ⟨.none (by kernel_rfl), ?_⟩
      first | refine m_float0 rfl (fun _ _ => p_pickt rfl rfl) rfl ?_ | refine m_float0 rfl (fun _ _ => p_pickf rfl rfl) rfl ?_
      refine m_float0 rfl (fun _ _ => p_assign rfl) rfl ?_
      refine m_nil ?_
      refine g_qt ?_
      refine g_ret ?_
      exact g_post (Ho := []) (rs := [.tmp 8]) rfl (.tmp rfl .nil) rfl .nil
    · have h0 : 2 < l.length := by omega
      obtain ⟨b, off, cs, T, fz, r1, r2, r3⟩ := ha.at (by omega)
      obtain ⟨a0, k0, e0, s0⟩ := r3 0 (by omega)
      obtain ⟨a1, k1, e1, s1⟩ := r3 1 (by omega)
      obtain ⟨a2, k2, e2, s2⟩ := r3 2 (by omega)
      have e0' : cs[off + (0 : Int).toNat * 1]? = some (.slice a0 l[0].length k0) := e0
      have e1' : cs[off + (1 : Int).toNat * 1]? = some (.slice a1 l[1].length k1) := e1
      have e2' : cs[off + (2 : Int).toNat * 1]? = some (.slice a2 l[2].length k2) := e2
      have hl0 := hlens l[0] (List.getElem_mem (by omega))
      clear e0 e1 e2
      generalize l[0] = p at *
      generalize l[1] = q at *
      generalize l[2] = r at *
      have hI : (IfL p q r).length ≤ 1000000 := by simp [IfL, lenF3]; omega
      refine m_yes0 rfl rfl rfl (fun _ _ => p_move rfl) rfl ?_
      refine m_yes0 rfl rfl rfl (fun _ _ => p_indexAddr rfl rfl (by omega) (fun _ => r1)) rfl ?_
      refine m_yes rfl rfl rfl (p_load (by rfl) rfl (Has.ro r2) e0') rfl ?_
      refine m_yes0 rfl rfl rfl (fun _ _ => p_move rfl) rfl ?_
      refine m_yes0 rfl rfl rfl (fun _ _ => p_indexAddr rfl rfl (by omega) (fun _ => r1)) rfl ?_
      refine m_yes rfl rfl rfl (p_load (by rfl) rfl (Has.ro r2) e1') rfl ?_
      refine m_yes0 rfl rfl rfl (fun _ _ => p_move rfl) rfl ?_
      refine m_yes0 rfl rfl rfl (fun _ _ => p_indexAddr rfl rfl (by omega) (fun _ => r1)) rfl ?_
      refine m_yes rfl rfl rfl (p_load (by rfl) rfl (Has.ro r2) e2') rfl ?_
      refine m_yes0 rfl rfl rfl (fun _ _ => p_move rfl) rfl ?_
      refine m_yes0 rfl rfl rfl (fun _ _ => p_indexAddr rfl rfl (by omega) (fun _ => r1)) rfl ?_
      refine m_yes rfl rfl rfl (p_load (by rfl) rfl (Has.ro r2) e0') rfl ?_
      refine m_yes0 rfl rfl rfl (fun _ _ => p_move rfl) rfl ?_
      refine m_yes0 rfl rfl rfl (fun _ _ => p_indexAddr rfl rfl (by omega) (fun _ => r1)) rfl ?_
      refine m_yes rfl rfl rfl (p_load (by rfl) rfl (Has.ro r2) e1') rfl ?_
      refine m_yes0 rfl rfl rfl (fun _ _ => p_move rfl) rfl ?_
      refine m_yes0 rfl rfl rfl (fun _ _ => p_indexAddr rfl rfl (by omega) (fun _ => r1)) rfl ?_
      refine m_yes rfl rfl rfl (p_load (by rfl) rfl (Has.ro r2) e2') rfl ?_
      refine m_call (Hin := []) (Hr := ?hr14) (R := ?rr14) rfl (wantedY rfl rfl) rfl rfl rfl ?hin14 ?hc14 ?hk14
      case hin14 => repeat' (first | exact Cover.nil | exact Take.here | apply Cover.cons | apply Take.there)
      case hc14 => intro ρ' hρ hR; exact if_ok (c := p) (a := q) (b := r) (s0.mono hρ) (s1.mono hρ) (s2.mono hρ) (by omega)
      rintro _ _ ⟨o5, c5, rfl, rfl⟩
      refine ⟨.some (by repeat' (first | exact Cover.nil | exact Take.here | apply Cover.cons | apply Take.there)), ?_⟩
      refine m_call (Hin := []) (Hr := ?hr15) (R := ?rr15) rfl (wantedY rfl rfl) rfl rfl rfl ?hin15 ?hc15 ?hk15
      case hin15 => repeat' (first | exact Cover.nil | exact Take.here | apply Cover.cons | apply Take.there)
      case hc15 => intro ρ' hρ hR; exact dif_ok (c := p) (a := q) (b := r) (s0.mono hρ) (s1.mono hρ) (s2.mono hρ) (by omega)
      rintro _ _ ⟨o6, c6, rfl, rfl⟩
      refine ⟨.none (by kernel_rfl), ?_⟩
      refine m_call (Hin := []) (Hr := ?hr16) (R := ?rr16) rfl (wantedY rfl rfl) rfl rfl rfl ?hin16 ?hc16 ?hk16
      case hin16 => repeat' (first | exact Cover.nil | exact Take.here | apply Cover.cons | apply Take.there)
      case hc16 => intro ρ' hρ hR; exact same_ok (xs := IfL p q r) (ys := IfL p q r) rfl rfl (RSl.of_own hR.2.1) (RSl.of_own hR.1) hI hI
      rintro _ _ ⟨rfl, rfl⟩
      refine ⟨.none (by kernel_rfl), ?_⟩
      rw [decide_eq_true rfl]
      first | refine m_float0 rfl (fun _ _ => p_pickt rfl rfl) rfl ?_ | refine m_float0 rfl (fun _ _ => p_pickf rfl rfl) rfl ?_
      refine m_float0 rfl (fun _ _ => p_move rfl) rfl ?_
      refine m_call (Hin := []) (Hr := ?hr17) (R := ?rr17) rfl (wantedY rfl rfl) rfl rfl rfl ?hin17 ?hc17 ?hk17
      case hin17 => repeat' (first | exact Cover.nil | exact Take.here | apply Cover.cons | apply Take.there)
      case hc17 => intro ρ' hρ hR; exact lives_ok
      rintro _ _ ⟨rfl, rfl⟩
      refine ⟨.none (by kernel_rfl), ?_⟩
      first | refine m_float0 rfl (fun _ _ => p_pickt rfl rfl) rfl ?_ | refine m_float0 rfl (fun _ _ => p_pickf rfl rfl) rfl ?_
      refine m_float0 rfl (fun _ _ => p_assign rfl) rfl ?_
      refine m_nil ?_
      refine g_qt ?_
      refine g_ret ?_
      exact g_post (Ho := []) (rs := [.tmp 8]) rfl (.tmp rfl .nil) rfl .nil
end Go.Proofs.Ytceecdjckhbncaa
