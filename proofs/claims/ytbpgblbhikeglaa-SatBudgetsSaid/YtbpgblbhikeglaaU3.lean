/- Chapter 37, the document: Solve, the walk. Conditions: none. -/
import Derived.Test.YtbpgblbhikeglaaU2
namespace Go.Proofs.Ytbpgblbhikeglaa
set_option linter.unusedVariables false
set_option linter.unusedSimpArgs false
set_option linter.unusedSectionVars false
open Go Go.Z Go.Z.Sat

theorem dsolve_ok {ρ : Nat → Obj → Prop} (n : Int) (hn : I64 n) (ca : Option Addr) (cc : Nat) (F : Fm) (hF : FmR ρ ca F) (hO : check1 n F = 0 → Ok n.toNat F) (bud : Int) (hb : I64 bud) :
    Con Try.prog ρ 11 #[.agg #[.int .i64 n, .slice ca F.length cc], .int .i64 bud] [] (SolP n F bud) := by
  refine con_intro Try.func11 Try.call11 rfl Try.ntmps11 rfl (L := [(0, _), (1, _)]) rfl fun w hh => ?_
  refine g_seq ?_
  refine g_region ?_
  refine g_eff (e_box rfl (by rfl)) rfl (fun _ _ => ?_)
  rintro ⟨b2, rfl, rfl⟩
  refine g_pure (p_assign rfl) rfl ?_
  refine g_pure (p_assign rfl) rfl ?_
  refine g_pure (p_assign rfl) rfl ?_
  refine g_nil ?_
  refine g_qt ?_
  refine g_seq ?_
  refine g_seq ?_
  refine g_region ?_
  refine g_pure (p_move rfl) rfl ?_
  refine g_pure (p_lss rfl rfl) rfl ?_
  refine g_nil ?_
  refine g_qt ?_
  refine g_ifd rfl (fun q => ?_) (fun q => ?_)
  · refine g_seq ?_
    refine g_region ?_
    refine g_pure (p_assign rfl) rfl ?_
    refine g_pure (p_assign rfl) rfl ?_
    refine g_pure (p_assign rfl) rfl ?_
    refine g_nil ?_
    refine g_qt ?_
    refine g_ret ?_
    refine g_qt_ret ?_
    refine g_ownnil (e := 4) (size := 1) ?_
    exact g_post (rs := [.tmp 4, .tmp 5, .tmp 6]) rfl (.tmp rfl (.tmp rfl (.tmp rfl .nil))) ⟨0, [], none, 0, 2, .inl ⟨q, rfl, rfl, rfl⟩, rfl, rfl⟩ (by repeat' (first | exact Cover.nil | exact Take.here | apply Cover.cons | apply Take.there))
  · refine g_skip ?_
    refine g_qt ?_
    refine g_seq ?_
    refine g_region ?_
    first | refine g_pure (p_loadO (by rfl) rfl (by first | (apply Has.own; (repeat' (first | exact Take.here | apply Take.there)); done) | exact Has.ro (by assumption)) (by rfl)) rfl ?_ | refine g_pure (p_loadN (by rfl) rfl (by first | (apply Has.own; (repeat' (first | exact Take.here | apply Take.there)); done) | exact Has.ro (by assumption)) (by first | rfl | assumption)) rfl ?_
    refine g_call (Hin := []) (Hr := ?hr1) (R := ?rr1) rfl rfl rfl ?hin1 ?hc1 ?hk1
    case hin1 => repeat' (first | exact Cover.nil | exact Take.here | apply Cover.cons | apply Take.there)
    case hc1 => intro ρ' hρ hR; exact rcheck_ok n hn ca cc F (hF.mono hρ)
    rintro _ _ ⟨rfl, rfl⟩
    refine g_pure (p_assign rfl) rfl ?_
    refine g_nil ?_
    refine g_qt ?_
    refine g_seq ?_
    refine g_seq ?_
    refine g_region ?_
    refine g_pure (p_move rfl) rfl ?_
    refine g_pure (p_neq rfl rfl) rfl ?_
    refine g_nil ?_
    refine g_qt ?_
    refine g_ifnd rfl (fun c => ?_) (fun c => ?_)
    · refine g_seq ?_
      refine g_region ?_
      refine g_pure (p_move rfl) rfl ?_
      refine g_pure (p_assign rfl) rfl ?_
      refine g_pure (p_assign rfl) rfl ?_
      refine g_pure (p_assign rfl) rfl ?_
      refine g_nil ?_
      refine g_qt ?_
      refine g_ret ?_
      refine g_qt_ret ?_
      refine g_ownnil (e := 4) (size := 1) ?_
      exact g_post (rs := [.tmp 4, .tmp 5, .tmp 6]) rfl (.tmp rfl (.tmp rfl (.tmp rfl .nil))) ⟨0, [], none, 0, check1 n F, .inr (.inl ⟨by omega, c, rfl, rfl, rfl⟩), rfl, rfl⟩ (by repeat' (first | exact Cover.nil | exact Take.here | apply Cover.cons | apply Take.there))
    · have hO' := hO c
      have hnn := check1_nonneg c
      have hfin : ∀ r, Sat.Reach F n.toNat bud (fun _ => none) [] 0 r → Sol n F bud (ocode r) (ocells n.toNat r) 0 := fun r hr => .inr (.inr ⟨by omega, c, rfl, r, hr, rfl, rfl⟩)
      obtain ⟨m, rfl⟩ : ∃ m : Nat, n = m := ⟨n.toNat, by omega⟩
      rw [Int.toNat_natCast] at hO' hfin
      have hvars := hO'.vars
      have e1 : ((m : Int) + 1).toNat = m + 1 := by omega
      unfold I64 at hb
      refine g_skip ?_
      refine g_qt ?_
      refine g_seq ?_
      refine g_region ?_
      refine g_pure (p_fieldAddr rfl) rfl ?_
      refine g_pure (p_load (by rfl) rfl (by first | (apply Has.own; (repeat' (first | exact Take.here | apply Take.there)); done) | exact Has.ro (by assumption)) (by first | rfl | assumption)) rfl ?_
      first | refine g_pure (p_addi rfl rfl (by omega)) rfl ?_ | refine g_pure (p_add rfl rfl) rfl ?_
      refine g_eff (e_make (by rfl) (by rfl) rfl rfl (by omega) (by first | omega | (dsimp only; omega)) (by omega)) rfl (fun _ _ => ?_)
      rintro ⟨b23, rfl, rfl⟩
      refine g_pure (p_assign rfl) rfl ?_
      refine g_nil ?_
      refine g_qt ?_
      refine g_seq ?_
      refine g_region ?_
      refine g_pure (p_assign rfl) rfl ?_
      refine g_nil ?_
      refine g_qt ?_
      refine g_seq ?_
      refine g_region ?_
      refine g_pure (p_assign rfl) rfl ?_
      refine g_nil ?_
      refine g_qt ?_
      refine g_block ?_
      rw [e1]
      refine g_fold (k := m + 1) (cap := m + 1) (size := 1) (g := b23) (xs := dcells m (fun _ => none)) .here (Nat.le_refl _) (by omega) (by simp) (by rw [dcells_none]; exact List.take_of_length_le (by simp)) ?_
      refine g_ownnil (e := 51) (size := 2) ?_
      refine g_emp (A := Al []) rfl ?_
      refine g_close (K := LvK m none 0 []) (H1 := [OwnSl 51 2 none 0 0 [], Al []]) ⟨[], rfl, rfl⟩ (by repeat' (first | exact Cover.nil | exact Take.here | apply Cover.cons | apply Take.there)) ?_
      refine g_loop (fun q : As × Option Addr × Nat × List (Nat × As) × Int × Option Addr × Nat => [(1, .int .i64 bud), (2, .pointer (some ⟨b2, 0, none⟩)), (8, .slice q.2.1 (m + 1) q.2.2.1), (9, .slice q.2.2.2.2.2.1 q.2.2.2.1.length q.2.2.2.2.2.2), (10, .int .i64 q.2.2.2.2.1)])
        (fun q => [OwnSl 3 1 q.2.1 (m + 1) q.2.2.1 (dcells m q.1), Lv m q.2.2.2.2.2.1 q.2.2.2.2.2.2 q.2.2.2.1, Blk b2 (.cells [.int .i64 m, .slice ca F.length cc].toArray 24 (0, 0))]) (fun q => DI m F bud q.1 q.2.2.2.1 q.2.2.2.2.1) (fun q => meas m q.1 q.2.2.2.1.reverse) (fun _ => none, some ⟨b23, 0, none⟩, m + 1, [], 0, none, 0) (DI.nil (by omega)) (by repeat (first | exact trivial | refine ⟨by rfl, ?_⟩)) (by repeat' (first | exact Cover.nil | exact Take.here | apply Cover.cons | apply Take.there)) ?_
      rintro ⟨A, aa, ac, S, k, la, lc⟩ hI
      dsimp only at hI ⊢
      have hkk := hI.kk
      have hSl := hI.len
      refine g_block ?_
      refine g_seq ?_
      refine g_seq ?_
      refine g_region ?_
      first | refine g_pure (p_loadO (by rfl) rfl (by first | (apply Has.own; (repeat' (first | exact Take.here | apply Take.there)); done) | exact Has.ro (by assumption)) (by rfl)) rfl ?_ | refine g_pure (p_loadN (by rfl) rfl (by first | (apply Has.own; (repeat' (first | exact Take.here | apply Take.there)); done) | exact Has.ro (by assumption)) (by first | rfl | assumption)) rfl ?_
      refine g_pure (p_move rfl) rfl ?_
      refine g_call (Hin := [OwnSl 3 1 aa (m + 1) ac (dcells m A)]) (Hr := ?hr2) (R := ?rr2) rfl rfl rfl ?hin2 ?hc2 ?hk2
      case hin2 => repeat' (first | exact Cover.nil | exact Take.here | apply Cover.cons | apply Take.there)
      case hc2 => intro ρ' hρ hR; exact dprop_ok hO' ca cc (hF.mono hρ) A aa ac
      rintro _ _ ⟨b, A1, rfl, rfl, hp1, hp2⟩
      refine g_pure (p_not rfl) rfl ?_
      refine g_nil ?_
      refine g_qt ?_
      cases b with
      | false =>
        refine g_ift rfl ?_
        refine g_seq ?_
        refine g_seq ?_
        refine g_region ?_
        refine g_pure (p_move rfl) rfl ?_
        refine g_pure (p_len (by rfl) rfl) rfl ?_
        refine g_pure (p_eql rfl rfl) rfl ?_
        refine g_nil ?_
        refine g_qt ?_
        refine g_ifd rfl (fun e => ?_) (fun e => ?_)
        · have hS : S = [] := List.eq_nil_of_length_eq_zero (by omega)
          subst hS
          refine g_seq ?_
          refine g_region ?_
          refine g_pure (p_assign rfl) rfl ?_
          refine g_pure (p_assign rfl) rfl ?_
          refine g_pure (p_assign rfl) rfl ?_
          refine g_nil ?_
          refine g_qt ?_
          refine g_ret ?_
          refine g_qt_ret ?_
          refine g_qt_ret ?_
          refine g_qb_ret ?_
          refine g_qn_ret ?_
          refine g_qb_ret ?_
          refine g_ownnil (e := 4) (size := 1) ?_
          exact g_post (rs := [.tmp 4, .tmp 5, .tmp 6]) rfl (.tmp rfl (.tmp rfl (.tmp rfl .nil))) ⟨2, [], none, 0, 0, hfin .uns (hI.res _ (.uns (hp1 rfl))), rfl, rfl⟩ (by repeat' (first | exact Cover.nil | exact Take.here | apply Cover.cons | apply Take.there))
        · obtain ⟨S', ⟨v, B⟩, rfl⟩ : ∃ S' p, S = S' ++ [p] := by
            rcases List.eq_nil_or_concat S with h | ⟨S', p, h⟩
            · rw [h] at e; exact absurd rfl e
            · exact ⟨S', p, by rw [h, List.concat_eq_append]⟩
          obtain ⟨hI2, hmu⟩ := hI.back (hp1 rfl)
          have hok := hI.ok
          rw [List.reverse_append, List.reverse_singleton, List.singleton_append] at hok
          obtain ⟨⟨hv1, hv2⟩, hv3⟩ := hok (v, B) (by simp)
          dsimp only at hv1 hv2 hv3
          have hll : okL m (-(v : Int)) := ⟨by omega, by omega, by omega⟩
          refine g_open (.there .here) ?_
          rintro _ ⟨hs, hhs, rfl⟩
          obtain ⟨hs', hh, rfl⟩ : ∃ S' p, hs = S' ++ [p] := by
            rcases List.eq_nil_or_concat hs with h | ⟨S', p, h⟩
            · rw [h] at hhs; simp at hhs
            · exact ⟨S', p, by rw [h, List.concat_eq_append]⟩
          have hhs' : hs'.length = S'.length := by simpa using hhs
          rw [lvcells_snoc hhs', lvinn_snoc hhs']
          have hlc := lvcells_len (n := m) hhs'
          have hlS : (S' ++ [(v, B)]).length = S'.length + 1 := by simp
          rw [hlS] at *
          have h1 : ((S'.length + 1 : Nat) : Int) - 1 = (S'.length : Int) := by omega
          refine g_alsnoc (.there .here) ?_
          refine g_own (a1 := hh.1) (k := m + 1) .here (fun _ h _ _ => absurd h (by omega)) ?_
          rintro gv curv hgv v1 v2 v3 v4 v5
          dsimp only at hgv v4
          refine g_own (a1 := la) (k := S'.length + 1) (.there (.there .here)) (fun _ h _ _ => absurd h (by omega)) ?_
          rintro gl curl rfl q1 q2 q3 q4 q5
          have xrow : sub curl (0 + (((S'.length + 1 : Nat) : Int) - 1).toNat * 2) 2 = some [.int .i64 v, .slice hh.1 (m + 1) hh.2] := by
            refine sub_pre q4 ?_
            have := sub_snoc (lvcells m hs' S') (lvrow m hh (v, B))
            rw [hlc] at this
            rw [h1, show 0 + ((S'.length : Nat) : Int).toNat * 2 = S'.length * 2 by omega]
            exact this
          rw [hgv] at xrow
          refine g_skip ?_
          refine g_qt ?_
          refine g_seq ?_
          refine g_region ?_
          refine g_pure (p_move rfl) rfl ?_
          refine g_pure (p_move rfl) rfl ?_
          refine g_pure (p_len (by rfl) rfl) rfl ?_
          first | refine g_pure (p_subi rfl rfl (by omega)) rfl ?_ | refine g_pure (p_sub rfl rfl) rfl ?_
          refine g_pure (p_indexAddr rfl rfl (by omega) (fun _ => rfl)) rfl ?_
          refine g_pure (p_loadN (by rfl) rfl (Has.own (by repeat' (first | exact Take.here | apply Take.there))) xrow) rfl ?_
          refine g_eff (e_alloc (by rfl)) rfl (fun _ _ => ?_)
          rintro ⟨b11, rfl, rfl⟩
          first | refine g_eff0 (e_storeO rfl rfl (by rfl) (by rfl) (by rfl) (by repeat' (first | exact Take.here | apply Take.there)) (by rfl)) (fun _ _ => ?_) | refine g_eff0 (e_storeN rfl rfl (by rfl) (by rfl) (by rfl) (by repeat' (first | exact Take.here | apply Take.there)) (by simp)) (fun _ _ => ?_)
          rintro rfl
          refine g_nil ?_
          refine g_qt ?_
          refine g_seq ?_
          refine g_region ?_
          refine g_pure (p_move rfl) rfl ?_
          refine g_pure (p_move rfl) rfl ?_
          refine g_pure (p_len (by rfl) rfl) rfl ?_
          first | refine g_pure (p_subi rfl rfl (by omega)) rfl ?_ | refine g_pure (p_sub rfl rfl) rfl ?_
          refine g_pure (p_sliceh rfl rfl (by omega)) rfl ?_
          refine g_pure (p_assign rfl) rfl ?_
          refine g_nil ?_
          refine g_qt ?_
          refine g_seq ?_
          refine g_region ?_
          refine g_pure (p_fieldAddr rfl) rfl ?_
          refine g_pure (p_load (by rfl) rfl (by first | (apply Has.own; (repeat' (first | exact Take.here | apply Take.there)); done) | exact Has.ro (by assumption)) (by first | rfl | assumption)) rfl ?_
          refine g_pure (p_assign rfl) rfl ?_
          refine g_nil ?_
          refine g_qt ?_
          refine g_seq ?_
          refine g_region ?_
          refine g_pure (p_move rfl) rfl ?_
          refine g_pure (p_fieldAddr rfl) rfl ?_
          refine g_pure (p_load (by rfl) rfl (by first | (apply Has.own; (repeat' (first | exact Take.here | apply Take.there)); done) | exact Has.ro (by assumption)) (by first | rfl | assumption)) rfl ?_
          refine g_pure (p_indexAddr rfl rfl (by omega) (fun _ => rfl)) rfl ?_
          refine g_eff0 (e_store1 (by rfl) rfl rfl rfl (by repeat' (first | exact Take.here | apply Take.there)) (by simp; omega)) (fun _ _ => ?_)
          rintro rfl
          refine g_nil ?_
          refine g_qt ?_
          refine g_exit ?_
          refine g_qt_exit ?_
          refine g_qb_exit ?_
          refine g_qn ?_
          have h2 : (((S'.length + 1 : Nat) : Int) - 1).toNat = S'.length := by omega
          rw [h2]
          refine g_fold (k := m + 1) (cap := hh.2) (size := 1) (g := gv) (xs := dcells m (put B (-(v : Int)))) .here v1 v2 (by simp; omega) (set_take v4 (by rw [← dcells_put hll, if_neg (by omega)]; show List.set _ (0 + (v : Int).toNat * 1) _ = _; rw [show 0 + (v : Int).toNat * 1 = (-(v : Int)).natAbs by omega])) ?_
          refine g_fold (k := S'.length) (cap := lc) (size := 2) (g := gl) (xs := lvcells m hs' S') (by repeat' (first | exact Take.here | apply Take.there)) (by omega) q2 q3 (by
            have := congrArg (List.take (S'.length * 2)) q4
            rw [List.take_take, Nat.min_eq_left (by omega), List.take_left' hlc] at this
            exact this) ?_
          refine g_close (K := LvK m (some ⟨gl, 0, none⟩) lc S') (H1 := [OwnSl 51 2 (some ⟨gl, 0, none⟩) S'.length lc (lvcells m hs' S'), Al (lvinn m hs' S')]) ⟨hs', hhs', rfl⟩ (by repeat' (first | exact Cover.nil | exact Take.here | apply Cover.cons | apply Take.there)) ?_
          exact g_next (put B (-(v : Int)), some ⟨gv, 0, none⟩, hh.2, S', k, some ⟨gl, 0, none⟩, lc) (by repeat (first | exact trivial | refine ⟨by rfl, ?_⟩)) (by repeat' (first | exact Cover.nil | exact Take.here | apply Cover.cons | apply Take.there)) hI2 hmu
      | true =>
        have hpr := hp2 rfl
        have hle := cnt_le hpr.1 m
        refine g_iff rfl ?_
        refine g_skip ?_
        refine g_qt ?_
        refine g_seq ?_
        refine g_seq ?_
        refine g_region ?_
        first | refine g_pure (p_loadO (by rfl) rfl (by first | (apply Has.own; (repeat' (first | exact Take.here | apply Take.there)); done) | exact Has.ro (by assumption)) (by rfl)) rfl ?_ | refine g_pure (p_loadN (by rfl) rfl (by first | (apply Has.own; (repeat' (first | exact Take.here | apply Take.there)); done) | exact Has.ro (by assumption)) (by first | rfl | assumption)) rfl ?_
        refine g_pure (p_move rfl) rfl ?_
        refine g_call (Hin := []) (Hr := ?hr3) (R := ?rr3) rfl rfl rfl ?hin3 ?hc3 ?hk3
        case hin3 => repeat' (first | exact Cover.nil | exact Take.here | apply Cover.cons | apply Take.there)
        case hc3 => intro ρ' hρ hR; exact sat_ok hO' ca cc (hF.mono hρ) (.of_own hR.1)
        rintro _ _ ⟨bs, rfl, rfl, hs1, hs2⟩
        refine g_nil ?_
        refine g_qt ?_
        cases bs with
        | true =>
          refine g_ift rfl ?_
          refine g_seq ?_
          refine g_region ?_
          refine g_pure (p_move rfl) rfl ?_
          refine g_call (Hin := []) (Hr := ?hr4) (R := ?rr4) rfl rfl rfl ?hin4 ?hc4 ?hk4
          case hin4 => repeat' (first | exact Cover.nil | exact Take.here | apply Cover.cons | apply Take.there)
          case hc4 => intro ρ' hρ hR; exact dmodel_ok hvars (.of_own hR.1)
          rintro _ _ ⟨am, cm, rfl, rfl⟩
          refine g_pure (p_assign rfl) rfl ?_
          refine g_pure (p_assign rfl) rfl ?_
          refine g_pure (p_assign rfl) rfl ?_
          refine g_nil ?_
          refine g_qt ?_
          refine g_ret ?_
          refine g_qt_ret ?_
          refine g_qb_ret ?_
          refine g_qn_ret ?_
          refine g_qb_ret ?_
          exact g_post (Ho := [OwnSl 4 1 am m cm (mcells m A1)]) (rs := [.tmp 4, .tmp 5, .tmp 6]) rfl (.tmp rfl (.tmp rfl (.tmp rfl .nil))) ⟨1, mcells m A1, am, cm, 0, hfin (.sat A1) (hI.res _ (.sat hpr (hs1 rfl))), by simp [tupled, mcells_len], by simp [mcells_len]⟩ (by repeat' (first | exact Cover.nil | exact Take.here | apply Cover.cons | apply Take.there))
        | false =>
          have hns := hs2 rfl
          refine g_iff rfl ?_
          refine g_skip ?_
          refine g_qt ?_
          refine g_seq ?_
          refine g_seq ?_
          refine g_region ?_
          refine g_pure (p_move rfl) rfl ?_
          refine g_pure (p_move rfl) rfl ?_
          refine g_pure (p_eql rfl rfl) rfl ?_
          refine g_nil ?_
          refine g_qt ?_
          refine g_ifd rfl (fun w => ?_) (fun w => ?_)
          · refine g_seq ?_
            refine g_region ?_
            refine g_pure (p_assign rfl) rfl ?_
            refine g_pure (p_assign rfl) rfl ?_
            refine g_pure (p_assign rfl) rfl ?_
            refine g_nil ?_
            refine g_qt ?_
            refine g_ret ?_
            refine g_qt_ret ?_
            refine g_qb_ret ?_
            refine g_qn_ret ?_
            refine g_qb_ret ?_
            refine g_ownnil (e := 4) (size := 1) ?_
            exact g_post (rs := [.tmp 4, .tmp 5, .tmp 6]) rfl (.tmp rfl (.tmp rfl (.tmp rfl .nil))) ⟨0, [], none, 0, 0, hfin .unk (hI.res _ (.unk hpr hns w)), rfl, rfl⟩ (by repeat' (first | exact Cover.nil | exact Take.here | apply Cover.cons | apply Take.there))
          · obtain ⟨w0, hw1, hw2, hw3⟩ := hpr.2.2.open hO'.lits hns
            refine g_skip ?_
            refine g_qt ?_
            refine g_seq ?_
            refine g_region ?_
            refine g_pure (p_move rfl) rfl ?_
            first | refine g_pure (p_addi rfl rfl (by omega)) rfl ?_ | refine g_pure (p_add rfl rfl) rfl ?_
            refine g_pure (p_assign rfl) rfl ?_
            refine g_nil ?_
            refine g_qt ?_
            refine g_seq ?_
            refine g_region ?_
            refine g_pure (p_assign rfl) rfl ?_
            refine g_nil ?_
            refine g_qt ?_
            refine g_seq ?_
            refine g_block ?_
            refine g_loop (fun u : Nat => [(1, .int .i64 bud), (2, .pointer (some ⟨b2, 0, none⟩)), (8, .slice aa (m + 1) ac), (9, .slice la S.length lc), (10, .int .i64 (k + 1)), (12, .int .i64 u)])
              (fun _ => [OwnSl 3 1 aa (m + 1) ac (dcells m A1), Lv m la lc S, Blk b2 (.cells [.int .i64 m, .slice ca F.length cc].toArray 24 (0, 0))]) (fun u => 1 ≤ u ∧ u ≤ w0 ∧ ∀ x, 1 ≤ x → x < u → A1 x ≠ none) (fun u => w0 - u) 1 ⟨Nat.le_refl _, hw1, fun x h1 h2 => by omega⟩ (by repeat (first | exact trivial | refine ⟨by rfl, ?_⟩)) (by repeat' (first | exact Cover.nil | exact Take.here | apply Cover.cons | apply Take.there)) ?_
            rintro u ⟨hu1, hu2, hu3⟩
            refine g_own (a1 := aa) (k := m + 1) .here (fun _ h _ _ => absurd h (by omega)) ?_
            rintro ga cura rfl v1 v2 v3 v4 v5
            have xu : cura[0 + (u : Int).toNat * 1]? = some (.int .i64 (dcode (A1 u))) := own_at (k := u) v4 (by omega) (dcells_at A1 (by omega))
            refine g_seq ?_
            refine g_seq ?_
            refine g_region ?_
            refine g_pure (p_move rfl) rfl ?_
            refine g_pure (p_move rfl) rfl ?_
            refine g_pure (p_indexAddr rfl rfl (by omega) (fun _ => rfl)) rfl ?_
            refine g_pure (p_load (by rfl) rfl (Has.own (by repeat' (first | exact Take.here | apply Take.there))) xu) rfl ?_
            refine g_pure (p_neq rfl rfl) rfl ?_
            refine g_nil ?_
            refine g_qt ?_
            refine g_ifnd rfl (fun h => ?_) (fun h => ?_)
            · refine g_skip ?_
              refine g_qt ?_
              refine g_block ?_
              refine g_region ?_
              refine g_pure (p_move rfl) rfl ?_
              first | refine g_pure (p_addi rfl rfl (by omega)) rfl ?_ | refine g_pure (p_add rfl rfl) rfl ?_
              refine g_pure (p_assign rfl) rfl ?_
              refine g_nil ?_
              refine g_qb ?_
              refine g_qn ?_
              refine g_fold (k := m + 1) (cap := ac) (size := 1) (g := ga) .here v1 v2 v3 v4 ?_
              have hne : u ≠ w0 := fun e => by subst e; rw [hw3] at h; exact h rfl
              refine g_next (u + 1) (by repeat (first | exact trivial | refine ⟨by rfl, ?_⟩)) (by repeat' (first | exact Cover.nil | exact Take.here | apply Cover.cons | apply Take.there)) ⟨by omega, by omega, fun x h1 h2 => ?_⟩ (by omega)
              by_cases ex : x = u
              · subst ex
                intro e2
                rw [e2] at h
                exact h rfl
              · exact hu3 x h1 (by omega)
            · have hun : A1 u = none := by
                cases e : A1 u with
                | none => rfl
                | some y => rw [e] at h; cases y <;> simp [dcode] at h
              have hleast : Least m A1 u := ⟨⟨hu1, by omega⟩, hun, hu3⟩
              have hll : okL m (u : Int) := ⟨by omega, by omega, by omega⟩
              obtain ⟨hI2, hmu⟩ := hI.dec hpr hns w hleast
              refine g_exit ?_
              refine g_qt_exit ?_
              refine g_qn_exit ?_
              refine g_qb_exit ?_
              refine g_qt ?_
              refine g_seq ?_
              refine g_region ?_
              refine g_pure (p_move rfl) rfl ?_
              refine g_pure (p_move rfl) rfl ?_
              refine g_pure (p_move rfl) rfl ?_
              refine g_call (Hin := []) (Hr := ?hr5) (R := ?rr5) rfl rfl rfl ?hin5 ?hc5 ?hk5
              case hin5 => repeat' (first | exact Cover.nil | exact Take.here | apply Cover.cons | apply Take.there)
              case hc5 => intro ρ' hρ hR; exact copied_ok (ac := ac) hvars (by have := RSl.of_blk (size := 1) (k := m + 1) hR.1.blk (by rw [v3]; omega); rw [v4] at this; exact this)
              rintro _ _ ⟨ad, cd, rfl, rfl⟩
              refine g_pure (p_build (by rfl) rfl (by rfl)) rfl ?_
              refine g_eff (e_bs (xs := [.tmp 69]) rfl rfl rfl (by rfl) (by rfl) rfl (by rfl)) rfl (fun _ _ => ?_)
              rintro ⟨b70, rfl, rfl⟩
              refine g_open (K := LvK m la lc S) (by repeat' (first | exact Take.here | apply Take.there)) ?_
              rintro _ ⟨hs, hhs, rfl⟩
              have hlc := lvcells_len (n := m) hhs
              refine g_eff (e_appendO (by rfl) (by rfl) rfl rfl (by first | (apply Has.own; (repeat' (first | exact Take.here | apply Take.there)); done) | exact Has.ro (by assumption)) (by rfl) (by rfl) (by repeat' (first | exact Take.here | apply Take.there)) (by omega) (by first | omega | (dsimp only; omega) | (simp <;> omega)) (by omega)) rfl (fun _ _ => ?_)
              rintro ⟨a71, c71, rfl, rfl⟩
              refine g_pure (p_assign rfl) rfl ?_
              refine g_nil ?_
              refine g_qt ?_
              refine g_region ?_
              refine g_pure (p_move rfl) rfl ?_
              refine g_pure (p_move rfl) rfl ?_
              refine g_pure (p_indexAddr rfl rfl (by omega) (fun _ => rfl)) rfl ?_
              refine g_eff0 (e_store1 (by rfl) rfl rfl rfl (by repeat' (first | exact Take.here | apply Take.there)) (by simp; omega)) (fun _ _ => ?_)
              rintro rfl
              refine g_nil ?_
              refine g_qb ?_
              refine g_qn ?_
              have hlS : S.length + 1 = (S ++ [(u, A1)]).length := by simp
              refine g_fold (k := m + 1) (cap := ac) (size := 1) (g := ga) (xs := dcells m (put A1 (u : Int))) (by repeat' (first | exact Take.here | apply Take.there)) v1 v2 (by simp; omega) (set_take v4 (by rw [← dcells_put hll, if_pos (by omega)]; show List.set _ (0 + (u : Int).toNat * 1) _ = _; rw [show 0 + (u : Int).toNat * 1 = (u : Int).natAbs by omega])) ?_
              refine g_alpush (l := lvinn m hs S) (X := OwnSl 3 1 ad (m + 1) cd (dcells m A1)) (by repeat' (first | exact Take.here | apply Take.there)) (by repeat' (first | exact Take.here | apply Take.there)) ?_
              rw [hlS]
              refine g_close (K := LvK m a71 c71 (S ++ [(u, A1)])) (H1 := [OwnSl 51 2 a71 (S ++ [(u, A1)]).length c71 (lvcells m hs S ++ lvrow m (ad, cd) (u, A1)), Al (lvinn m hs S ++ [OwnSl 3 1 ad (m + 1) cd (dcells m A1)])]) ⟨hs ++ [(ad, cd)], by simp [hhs], by rw [lvcells_snoc hhs, lvinn_snoc hhs]⟩ (by repeat' (first | exact Cover.nil | exact Take.here | apply Cover.cons | apply Take.there)) ?_
              exact g_next (put A1 (u : Int), some ⟨ga, 0, none⟩, ac, S ++ [(u, A1)], k + 1, a71, c71) (by repeat (first | exact trivial | refine ⟨by rfl, ?_⟩)) (by repeat' (first | exact Cover.nil | exact Take.here | apply Cover.cons | apply Take.there)) hI2 hmu
end Go.Proofs.Ytbpgblbhikeglaa
