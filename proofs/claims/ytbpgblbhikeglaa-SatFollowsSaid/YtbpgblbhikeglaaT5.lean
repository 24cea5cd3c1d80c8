/- Chapter 37: the search. Conditions: none. -/
import Derived.Test.YtbpgblbhikeglaaT4
namespace Go.Proofs.Ytbpgblbhikeglaa
set_option linter.unusedVariables false
set_option linter.unusedSimpArgs false
set_option linter.unusedSectionVars false
open Go Go.Z Go.Z.Sat

theorem search_ok {ρ : Nat → Obj → Prop} {s : Nat} {p : Sp} {F : Fm} (hO : Ok p.n F) (hm : p.m = F.length) (hU : RSl2 ρ p.ua (usesV p.n F)) (hF : FmR ρ p.ca F) (bud : Int) (hbud : 0 ≤ bud ∧ bud ≤ 9223372036854775807) :
    Con Try.prog ρ 22 #[.pointer (some ⟨s, 0, none⟩), .int .i64 bud] [Sv s p (fun _ => none) [] (trues F (fun _ => none)) 0] (fun v H => ∃ r a c, Sat.Reach F p.n bud (fun _ => none) [] 0 r ∧ v = .tuple #[.int .i64 (ocode r), .slice a (ocells p.n r).length c] ∧ H = [OwnSl 4 1 a (ocells p.n r).length c (ocells p.n r)]) := by
  have hvars := hO.vars
  have hTI := (TI.nil p.n).inv (F := F)
  refine con_intro Try.func22 Try.call22 rfl Try.ntmps22 rfl (L := [(0, _), (1, _)]) rfl fun w hh => ?_
  refine g_seq ?_
  refine g_region ?_
  refine g_pure (p_assign rfl) rfl ?_
  refine g_pure (p_assign rfl) rfl ?_
  refine g_nil ?_
  refine g_qt ?_
  refine g_scope ?_
  refine g_seq ?_
  refine g_region ?_
  refine g_pure (p_assign rfl) rfl ?_
  refine g_nil ?_
  refine g_qt ?_
  refine g_seq ?_
  refine g_region ?_
  refine g_pure (p_assign rfl) rfl ?_
  refine g_pure (p_assign rfl) rfl ?_
  refine g_nil ?_
  refine g_qt ?_
  refine g_seq ?_
  refine g_join (fun y : Bool × As × List Int × Nat => [(0, .pointer (some ⟨s, 0, none⟩)), (1, .int .i64 bud), (6, .slice none 0 0), (7, .int .i64 0), (8, .int .i64 1), (9, .bool y.1)])
    (fun y => [Sv s p y.2.1 y.2.2.1 (trues F y.2.1) y.2.2.2]) (fun y => Inv p.n F (fun _ => none) y.2.1 y.2.2.1 ∧ (y.1 = false → PR F (fun _ => none) none) ∧ (y.1 = true → y.2.2.2 = y.2.2.1.length ∧ PR F (fun _ => none) (some y.2.1))) ?_ ?_
  · refine g_region ?_
    refine g_pure (p_move rfl) rfl ?_
    refine g_call (Hin := [Sv s p (fun _ => none) [] (trues F (fun _ => none)) 0]) (Hr := ?hr1) (R := ?rr1) rfl rfl rfl ?hin1 ?hc1 ?hk1
    case hin1 => repeat' (first | exact Cover.nil | exact Take.here | apply Cover.cons | apply Take.there)
    case hc1 => intro ρ' hρ hR; exact start_at hO hm (hU.mono hρ) (hF.mono hρ) hTI (Nat.zero_le _)
    rintro _ _ ⟨b1, V1, T1, rfl, rfl, hI1, hp1, hn1, hy1⟩
    refine g_pure (p_move rfl) rfl ?_
    cases b1 with
    | false =>
      refine g_no rfl rfl rfl rfl ?_
      refine g_no rfl rfl rfl rfl ?_
      first | refine g_pure (p_pickt rfl rfl) rfl ?_ | refine g_pure (p_pickf rfl rfl) rfl ?_
      refine g_pure (p_assign rfl) rfl ?_
      refine g_nil ?_
      refine g_qn ?_
      exact g_joined (false, V1, T1, 0) (by repeat (first | exact trivial | refine ⟨by rfl, ?_⟩)) (by repeat' (first | exact Cover.nil | exact Take.here | apply Cover.cons | apply Take.there)) ⟨hI1, hn1, fun h => by cases h⟩
    | true =>
      refine g_yes rfl rfl ?_
      refine g_pure (p_move rfl) rfl ?_
      refine g_yes rfl rfl ?_
      refine g_call (Hin := [Sv s p V1 T1 (trues F V1) 0]) (Hr := ?hr2) (R := ?rr2) rfl rfl rfl ?hin2 ?hc2 ?hk2
      case hin2 => repeat' (first | exact Cover.nil | exact Take.here | apply Cover.cons | apply Take.there)
      case hc2 => intro ρ' hρ hR; exact prop_at hO hm (hU.mono hρ) (hF.mono hρ) hI1 (Nat.zero_le _) (hy1 rfl)
      rintro _ _ ⟨b2, V2, T2, d2, rfl, rfl, hI2, hp2, hn2, hy2⟩
      first | refine g_pure (p_pickt rfl rfl) rfl ?_ | refine g_pure (p_pickf rfl rfl) rfl ?_
      refine g_pure (p_assign rfl) rfl ?_
      refine g_nil ?_
      refine g_qn ?_
      exact g_joined (b2, V2, T2, d2) (by repeat (first | exact trivial | refine ⟨by rfl, ?_⟩)) (by repeat' (first | exact Cover.nil | exact Take.here | apply Cover.cons | apply Take.there)) ⟨hI2, hn2, hy2⟩
  rintro ⟨b0, V0, T0, d0⟩ ⟨hI0, hn0, hy0⟩
  dsimp only at hI0 hn0 hy0 ⊢
  refine g_ownnil (e := 66) (size := 3) ?_
  refine g_qt ?_
  refine g_seq ?_
  refine g_label ?_
  refine g_qt ?_
  refine g_seq ?_
  refine g_block ?_
  refine g_loop (fun x : SS => [(0, .pointer (some ⟨s, 0, none⟩)), (1, .int .i64 bud), (6, .slice x.la x.D.length x.lc), (7, .int .i64 x.k), (8, .int .i64 x.v), (9, .bool x.b)])
    (fun x => [Sv s p x.V x.T (trues F x.V) x.d, OwnSl 66 3 x.la x.D.length x.lc (x.D.flatMap encD)]) (fun x => SI p.n F bud x) (fun x => x.mu p.n) ⟨b0, fun _ => none, V0, T0, d0, [], 0, 1, none, 0⟩
    ⟨hI0, ⟨by simp, fun e he => absurd he List.not_mem_nil⟩, hn0, fun h => ⟨(hy0 h).1, (hy0 h).2, fun u h1 h2 => by dsimp only at h2; omega⟩, ⟨Nat.le_refl _, by dsimp only; omega⟩, ⟨Int.le_refl _, hbud.1⟩, fun r hr => hr⟩ (by repeat (first | exact trivial | refine ⟨by rfl, ?_⟩)) (by repeat' (first | exact Cover.nil | exact Take.here | apply Cover.cons | apply Take.there)) ?_
  intro x0 hx0
  refine g_block ?_
  refine g_seq ?_
  refine g_block ?_
  refine g_loop (fun x : SS => [(0, .pointer (some ⟨s, 0, none⟩)), (1, .int .i64 bud), (6, .slice x.la x.D.length x.lc), (7, .int .i64 x.k), (8, .int .i64 x.v), (9, .bool x.b)])
    (fun x => [Sv s p x.V x.T (trues F x.V) x.d, OwnSl 66 3 x.la x.D.length x.lc (x.D.flatMap encD)]) (fun x => SI p.n F bud x ∧ x.mu p.n ≤ x0.mu p.n) (fun x => x.mu p.n) x0 ⟨hx0, Nat.le_refl _⟩ (by repeat (first | exact trivial | refine ⟨by rfl, ?_⟩)) (by repeat' (first | exact Cover.nil | exact Take.here | apply Cover.cons | apply Take.there)) ?_
  rintro ⟨b, a, V, T, d, D, k, vv, la, lc⟩ ⟨hx, hmu⟩
  dsimp only
  have hTn : T.length ≤ p.n := by have := hx.inv.cnt; dsimp only at this; omega
  have hDn : D.length ≤ T.length := hx.stk.len
  refine g_seq ?_
  refine g_seq ?_
  refine g_region ?_
  refine g_pure (p_move rfl) rfl ?_
  refine g_pure (p_not rfl) rfl ?_
  refine g_nil ?_
  refine g_qt ?_
  cases b with
  | false =>
    refine g_ift rfl ?_
    refine g_skip ?_
    refine g_qt ?_
    refine g_block ?_
    refine g_seq ?_
    refine g_region ?_
    refine g_pure (p_move rfl) rfl ?_
    refine g_pure (p_len (by rfl) rfl) rfl ?_
    first | refine g_pure (p_subi rfl rfl (by omega)) rfl ?_ | refine g_pure (p_sub rfl rfl) rfl ?_
    refine g_pure (p_assign rfl) rfl ?_
    refine g_nil ?_
    refine g_qt ?_
    refine g_seq ?_
    refine g_block ?_
    refine g_loop (fun j : Nat => [(0, .pointer (some ⟨s, 0, none⟩)), (1, .int .i64 bud), (6, .slice la D.length lc), (7, .int .i64 k), (8, .int .i64 vv), (10, .int .i64 ((j : Int) - 1))])
      (fun _ => [Sv s p V T (trues F V) d, OwnSl 66 3 la D.length lc (D.flatMap encD)]) (fun j => j ≤ D.length ∧ ∀ i (hi : i < D.length), j ≤ i → D[i].2.2 = true) (fun j => j) D.length ⟨Nat.le_refl _, fun i hi h => absurd hi (by omega)⟩ (by repeat (first | exact trivial | refine ⟨by rfl, ?_⟩)) (by repeat' (first | exact Cover.nil | exact Take.here | apply Cover.cons | apply Take.there)) ?_
    rintro j ⟨hj, hr⟩
    refine g_seq ?_
    refine g_seq ?_
    refine g_region ?_
    refine g_pure (p_move rfl) rfl ?_
    refine g_pure (p_geq rfl rfl) rfl ?_
    refine g_pure (p_move rfl) rfl ?_
    refine g_splitd rfl rfl (fun g => ?_) (fun g => ?_)
    · obtain ⟨i, rfl⟩ : ∃ i, j = i + 1 := ⟨j - 1, by omega⟩
      have hk1 : ((i + 1 : Nat) : Int) - 1 = (i : Int) := by omega
      rw [hk1]
      have hi : i < D.length := by omega
      refine g_own (a1 := la) (k := D.length) (.there .here) (fun _ h _ _ => absurd h (by omega)) ?_
      rintro gl curl rfl q1 q2 q3 q4 q5
      obtain ⟨⟨v, bf, r⟩, hDi⟩ : ∃ e, e = D[i] := ⟨_, rfl⟩
      have xr : curl[0 + (i : Int).toNat * 3 + 2]? = some (.bool r) := own_at3 q4 (by rw [dcell hi (j := 2) (by omega) (by omega), ← hDi]; rfl)
      have xv : curl[0 + (i : Int).toNat * 3]? = some (.int .i64 v) := own_at3 q4 (by rw [dcell hi (j := 0) (by omega) (by omega), ← hDi]; rfl)
      have xb : curl[0 + (i : Int).toNat * 3 + 1]? = some (.int .i64 bf) := own_at3 q4 (by rw [dcell hi (j := 1) (by omega) (by omega), ← hDi]; rfl)
      refine g_yes rfl rfl ?_
      refine g_pure (p_move rfl) rfl ?_
      refine g_yes rfl rfl ?_
      refine g_pure (p_move rfl) rfl ?_
      refine g_yes rfl rfl ?_
      refine g_pure (p_indexAddr rfl rfl (by omega) (fun _ => rfl)) rfl ?_
      refine g_yes rfl rfl ?_
      refine g_pure (p_fieldAddr rfl) rfl ?_
      refine g_yes rfl rfl ?_
      refine g_pure (p_load (by rfl) rfl (Has.own (by repeat' (first | exact Take.here | apply Take.there))) xr) rfl ?_
      first | refine g_pure (p_pickt rfl rfl) rfl ?_ | refine g_pure (p_pickf rfl rfl) rfl ?_
      refine g_nil ?_
      refine g_qt ?_
      cases r with
      | true =>
        refine g_ift rfl ?_
        refine g_skip ?_
        refine g_qt ?_
        refine g_block ?_
        refine g_region ?_
        refine g_pure (p_move rfl) rfl ?_
        first | refine g_pure (p_subi rfl rfl (by omega)) rfl ?_ | refine g_pure (p_sub rfl rfl) rfl ?_
        refine g_pure (p_assign rfl) rfl ?_
        refine g_nil ?_
        refine g_qb ?_
        refine g_qn ?_
        refine g_fold (k := D.length) (cap := lc) (size := 3) (g := gl) (by repeat' (first | exact Take.here | apply Take.there)) q1 q2 q3 q4 ?_
        refine g_next i (by repeat (first | exact trivial | refine ⟨by rfl, ?_⟩)) (by repeat' (first | exact Cover.nil | exact Take.here | apply Cover.cons | apply Take.there)) ⟨by omega, fun i' hi' h' => ?_⟩ (by omega)
        by_cases e : i' = i
        · subst e; rw [← hDi]
        · exact hr i' hi' (by omega)
      | false =>
        obtain ⟨hb1, hle, hfx⟩ := hx.stk.each D[i] (List.getElem_mem hi)
        rw [← hDi] at hb1 hle hfx
        dsimp only at hb1 hle hfx
        have hxv : ∀ z, (curl.set (0 + (i : Int).toNat * 3 + 2) z)[0 + (i : Int).toNat * 3]? = some (.int .i64 v) := fun z => by rw [List.getElem?_set_ne (by omega)]; exact xv
        have hxb : ∀ z, (curl.set (0 + (i : Int).toNat * 3 + 2) z)[0 + (i : Int).toNat * 3 + 1]? = some (.int .i64 bf) := fun z => by rw [List.getElem?_set_ne (by omega)]; exact xb
        have hvn := hle.1
        have hneg : lv (asg (T.take bf)) (-(v : Int)) = none := by rw [lv_negv, hle.2.1]; rfl
        have hokn : okL p.n (-(v : Int)) := ⟨by omega, by omega, by omega⟩
        have hti := hx.inv.ti.cut (Nat.le_of_lt hb1)
        have hti2 := (hti.set hokn hneg).inv (F := F)
        have hpend := hfx.pend hO.lits (T := T.take bf) hokn.1 hneg
        have hset : setF (asg (T.take bf)) (T.take bf) [-(v : Int)] = (true, put (asg (T.take bf)) (-(v : Int)), T.take bf ++ [-(v : Int)]) := by rw [setF_cons, hneg]; rfl
        have hlt : (T.take bf).length = bf := by rw [List.length_take]; omega
        rw [hlt] at hpend
        refine g_iff rfl ?_
        refine g_exit ?_
        refine g_qt_exit ?_
        refine g_qn_exit ?_
        refine g_qb_exit ?_
        refine g_qt ?_
        refine g_seq ?_
        refine g_seq ?_
        refine g_region ?_
        refine g_pure (p_move rfl) rfl ?_
        refine g_pure (p_lss rfl rfl) rfl ?_
        refine g_nil ?_
        refine g_qt ?_
        refine g_iff rfl ?_
        refine g_skip ?_
        refine g_qt ?_
        refine g_seq ?_
        refine g_region ?_
        refine g_pure (p_move rfl) rfl ?_
        refine g_pure (p_move rfl) rfl ?_
        first | refine g_pure (p_addi rfl rfl (by omega)) rfl ?_ | refine g_pure (p_add rfl rfl) rfl ?_
        refine g_pure (p_sliceh rfl rfl (by omega)) rfl ?_
        refine g_pure (p_assign rfl) rfl ?_
        refine g_nil ?_
        refine g_qt ?_
        refine g_seq ?_
        refine g_region ?_
        refine g_pure (p_move rfl) rfl ?_
        refine g_pure (p_move rfl) rfl ?_
        refine g_pure (p_indexAddr rfl rfl (by omega) (fun _ => rfl)) rfl ?_
        refine g_pure (p_fieldAddr rfl) rfl ?_
        refine g_eff0 (e_store1 (by rfl) rfl rfl rfl (by repeat' (first | exact Take.here | apply Take.there)) (by simp; omega)) (fun _ _ => ?_)
        rintro rfl
        refine g_nil ?_
        refine g_qt ?_
        refine g_seq ?_
        refine g_region ?_
        refine g_pure (p_move rfl) rfl ?_
        refine g_pure (p_move rfl) rfl ?_
        refine g_pure (p_move rfl) rfl ?_
        refine g_pure (p_indexAddr rfl rfl (by omega) (fun _ => rfl)) rfl ?_
        refine g_pure (p_fieldAddr rfl) rfl ?_
        refine g_pure (p_load (by rfl) rfl (Has.own (by repeat' (first | exact Take.here | apply Take.there))) (hxb _)) rfl ?_
        refine g_call (Hin := [Sv s p V T (trues F V) d]) (Hr := ?hr3) (R := ?rr3) rfl rfl rfl ?hin3 ?hc3 ?hk3
        case hin3 => repeat' (first | exact Cover.nil | exact Take.here | apply Cover.cons | apply Take.there)
        case hc3 => intro ρ' hρ hR; exact undo_ok hO hm (hU.mono hρ) hx.inv bf hb1
        rintro _ _ ⟨rfl, rfl⟩
        refine g_nil ?_
        refine g_qt ?_
        refine g_seq ?_
        refine g_region ?_
        refine g_pure (p_move rfl) rfl ?_
        refine g_pure (p_move rfl) rfl ?_
        refine g_pure (p_indexAddr rfl rfl (by omega) (fun _ => rfl)) rfl ?_
        refine g_pure (p_fieldAddr rfl) rfl ?_
        refine g_pure (p_load (by rfl) rfl (Has.own (by repeat' (first | exact Take.here | apply Take.there))) (hxv _)) rfl ?_
        refine g_pure (p_assign rfl) rfl ?_
        refine g_nil ?_
        refine g_qt ?_
        refine g_region ?_
        refine g_pure (p_move rfl) rfl ?_
        refine g_pure (p_move rfl) rfl ?_
        refine g_pure (p_move rfl) rfl ?_
        refine g_pure (p_indexAddr rfl rfl (by omega) (fun _ => rfl)) rfl ?_
        refine g_pure (p_fieldAddr rfl) rfl ?_
        refine g_pure (p_load (by rfl) rfl (Has.own (by repeat' (first | exact Take.here | apply Take.there))) (hxv _)) rfl ?_
        first | refine g_pure (p_negi rfl (by omega)) rfl ?_ | refine g_pure (p_neg rfl) rfl ?_
        refine g_eff (e_bs (xs := [.tmp 61]) rfl rfl rfl (by rfl) (by rfl) rfl (by rfl)) rfl (fun _ _ => ?_)
        rintro ⟨b62, rfl, rfl⟩
        refine g_call (Hin := [Sv s p (asg (T.take bf)) (T.take bf) (trues F (asg (T.take bf))) bf]) (Hr := ?hr4) (R := ?rr4) rfl rfl rfl ?hin4 ?hc4 ?hk4
        case hin4 => repeat' (first | exact Cover.nil | exact Take.here | apply Cover.cons | apply Take.there)
        case hc4 => intro ρ' hρ hR; exact set_at (ls := [-(v : Int)]) hO hm (hU.mono hρ) hti.cnt hset (.of_blk hR.1.blk (by simp)) (by simp) (by simp; exact hokn)
        rintro _ _ ⟨rfl, rfl⟩
        refine g_pure (p_move rfl) rfl ?_
        refine g_yes rfl rfl ?_
        refine g_pure (p_move rfl) rfl ?_
        refine g_yes rfl rfl ?_
        refine g_call (Hin := [Sv s p (put (asg (T.take bf)) (-(v : Int))) (T.take bf ++ [-(v : Int)]) (trues F (put (asg (T.take bf)) (-(v : Int)))) bf]) (Hr := ?hr5) (R := ?rr5) rfl rfl rfl ?hin5 ?hc5 ?hk5
        case hin5 => repeat' (first | exact Cover.nil | exact Take.here | apply Cover.cons | apply Take.there)
        case hc5 => intro ρ' hρ hR; exact prop_at hO hm (hU.mono hρ) (hF.mono hρ) hti2 (by simp; omega) hpend
        rintro _ _ ⟨b2, V2, T2, d2, rfl, rfl, hI2, hp2, hn2, hy2⟩
        first | refine g_pure (p_pickt rfl rfl) rfl ?_ | refine g_pure (p_pickf rfl rfl) rfl ?_
        refine g_pure (p_assign rfl) rfl ?_
        refine g_nil ?_
        refine g_qb ?_
        refine g_qn ?_
        obtain ⟨D2, hD2⟩ : ∃ D2, D2 = D.take i ++ [(v, bf, true)] := ⟨_, rfl⟩
        have hl2 : D2.length = i + 1 := by rw [hD2]; simp; omega
        have hk2 : ((i : Int) + 1).toNat = D2.length := by omega
        have hst := hx.back rfl (j := i) (v := v) (b := bf) hi hDi.symm (fun i' hi' h' => hr i' hi' h') (la := some ⟨gl, 0, none⟩) (lc := lc) hI2 hp2 hn2 hy2
        dsimp only at hst
        rw [← hD2] at hst
        refine g_fold (k := D2.length) (cap := lc) (size := 3) (g := gl) (xs := D2.flatMap encD) (by repeat' (first | exact Take.here | apply Take.there)) (by omega) q2 (by rw [List.length_set]; exact q3) (by rw [hl2, hD2]; exact dec_set q4 hi hDi.symm (by dsimp only; omega)) ?_
        rw [hk2]
        exact g_next ⟨b2, _, V2, T2, d2, D2, k, v, some ⟨gl, 0, none⟩, lc⟩ (by repeat (first | exact trivial | refine ⟨by rfl, ?_⟩)) (by repeat' (first | exact Cover.nil | exact Take.here | apply Cover.cons | apply Take.there)) ⟨hst.1, Nat.le_trans (Nat.le_of_lt hst.2) hmu⟩ hst.2
    · have hj0 : j = 0 := by omega
      subst hj0
      have hL : lvls T D = [] := by
        rw [lvls_drop (j := 0) (fun i hi h => hr i hi h)]; rfl
      refine g_no rfl rfl rfl rfl ?_
      refine g_no rfl rfl rfl rfl ?_
      refine g_no rfl rfl rfl rfl ?_
      refine g_no rfl rfl rfl rfl ?_
      refine g_no rfl rfl rfl rfl ?_
      first | refine g_pure (p_pickt rfl rfl) rfl ?_ | refine g_pure (p_pickf rfl rfl) rfl ?_
      refine g_nil ?_
      refine g_qt ?_
      refine g_iff rfl ?_
      refine g_exit ?_
      refine g_qt_exit ?_
      refine g_qn_exit ?_
      refine g_qb_exit ?_
      refine g_qt ?_
      refine g_seq ?_
      refine g_seq ?_
      refine g_region ?_
      refine g_pure (p_move rfl) rfl ?_
      refine g_pure (p_lss rfl rfl) rfl ?_
      refine g_nil ?_
      refine g_qt ?_
      refine g_ift rfl ?_
      refine g_exit ?_
      refine g_qt_exit ?_
      refine g_qb_other rfl ?_
      refine g_qn_exit ?_
      refine g_qb_other rfl ?_
      refine g_qt_exit ?_
      refine g_qb_other rfl ?_
      refine g_qn_exit ?_
      refine g_qb_exit ?_
      refine g_qt ?_
      refine g_seq ?_
      refine g_region ?_
      refine g_pure (p_assign rfl) rfl ?_
      refine g_pure (p_assign rfl) rfl ?_
      refine g_nil ?_
      refine g_qt ?_
      refine g_ret ?_
      refine g_qs_ret ?_
      refine g_ownnil (e := 4) (size := 1) ?_
      refine g_post (rs := [.tmp 4, .tmp 5]) rfl (.tmp rfl (.tmp rfl .nil)) ⟨.uns, none, 0, hx.res .uns ?_, rfl, rfl⟩ (by repeat' (first | exact Cover.nil | exact Take.here | apply Cover.cons | apply Take.there))
      unfold SS.L
      dsimp only
      rw [hL]
      exact .uns (hx.no rfl)
  | true =>
    obtain ⟨hd, hpr, hva⟩ := hx.yes rfl
    dsimp only at hd hpr hva
    have hv1 := hx.v1
    dsimp only at hv1
    have hkk := hx.kk
    dsimp only at hkk
    refine g_iff rfl ?_
    refine g_exit ?_
    refine g_qt_exit ?_
    refine g_qn_exit ?_
    refine g_qb_exit ?_
    refine g_qt ?_
    refine g_seq ?_
    refine g_open .here ?_
    rintro _ ⟨va, vc, ta, tc, xa, xc, rfl⟩
    refine g_own (a1 := va) (k := p.n + 1) (.there .here) (fun _ h _ _ => absurd h (by omega)) ?_
    rintro gv curv rfl v1 v2 v3 v4 v5
    refine g_join (fun u : Nat => [(0, .pointer (some ⟨s, 0, none⟩)), (1, .int .i64 bud), (6, .slice la D.length lc), (7, .int .i64 k), (8, .int .i64 u)])
      (fun _ => [OwnSl 3 1 (some ⟨gv, 0, none⟩) (p.n + 1) vc (vcells p.n V), Blk s (.cells [.int .i64 p.n, .slice p.ca p.m p.cc, .slice (some ⟨gv, 0, none⟩) (p.n + 1) vc, .slice ta T.length tc, .slice p.ua (2 * p.n + 2) p.uc, .slice xa p.m xc, .int .i64 ((trues F V).count 0 : Nat), .int .i64 d].toArray 57 (0, 0)),
        OwnSl 3 1 ta T.length tc (T.map encI), OwnSl 3 1 xa p.m xc ((trues F V).map encN), OwnSl 66 3 la D.length lc (D.flatMap encD)])
      (fun u => 1 ≤ u ∧ u ≤ p.n + 1 ∧ (∀ w, 1 ≤ w → w < u → V w ≠ none) ∧ (u ≤ p.n → V u = none)) ?_ ?_
    · refine g_block ?_
      refine g_loop (fun u : Nat => [(0, .pointer (some ⟨s, 0, none⟩)), (1, .int .i64 bud), (6, .slice la D.length lc), (7, .int .i64 k), (8, .int .i64 u)])
        (fun _ => [Blk gv (.cells curv.toArray 3 (0, 0)), Blk s (.cells [.int .i64 p.n, .slice p.ca p.m p.cc, .slice (some ⟨gv, 0, none⟩) (p.n + 1) vc, .slice ta T.length tc, .slice p.ua (2 * p.n + 2) p.uc, .slice xa p.m xc, .int .i64 ((trues F V).count 0 : Nat), .int .i64 d].toArray 57 (0, 0)),
        OwnSl 3 1 ta T.length tc (T.map encI), OwnSl 3 1 xa p.m xc ((trues F V).map encN), OwnSl 66 3 la D.length lc (D.flatMap encD)])
        (fun u => 1 ≤ u ∧ u ≤ p.n + 1 ∧ ∀ w, 1 ≤ w → w < u → V w ≠ none) (fun u => p.n + 1 - u) vv ⟨hv1.1, hv1.2, hva⟩ (by repeat (first | exact trivial | refine ⟨by rfl, ?_⟩)) (by repeat' (first | exact Cover.nil | exact Take.here | apply Cover.cons | apply Take.there)) ?_
      rintro u ⟨hu1, hu2, hu3⟩
      refine g_seq ?_
      refine g_seq ?_
      refine g_region ?_
      refine g_pure (p_move rfl) rfl ?_
      refine g_pure (p_move rfl) rfl ?_
      refine g_pure (p_nilCheck rfl) rfl ?_
      refine g_pure (p_fieldAddr rfl) rfl ?_
      refine g_pure (p_fieldAddr rfl) rfl ?_
      refine g_pure (p_load (by rfl) rfl (by first | (apply Has.own; (repeat' (first | exact Take.here | apply Take.there)); done) | exact Has.ro (by assumption)) (by first | rfl | assumption)) rfl ?_
      refine g_pure (p_leq rfl rfl) rfl ?_
      refine g_pure (p_move rfl) rfl ?_
      refine g_splitd rfl rfl (fun g => ?_) (fun g => ?_)
      · have xu : curv[0 + (u : Int).toNat * 1]? = some (.int .i64 (vcode (V u))) := own_at (k := u) v4 (by omega) (vcells_at V (by omega))
        refine g_yes rfl rfl ?_
        refine g_pure (p_move rfl) rfl ?_
        refine g_yes rfl rfl ?_
        refine g_pure (p_nilCheck rfl) rfl ?_
        refine g_yes rfl rfl ?_
        refine g_pure (p_fieldAddr rfl) rfl ?_
        refine g_yes rfl rfl ?_
        refine g_pure (p_load (by rfl) rfl (by first | (apply Has.own; (repeat' (first | exact Take.here | apply Take.there)); done) | exact Has.ro (by assumption)) (by first | rfl | assumption)) rfl ?_
        refine g_yes rfl rfl ?_
        refine g_pure (p_move rfl) rfl ?_
        refine g_yes rfl rfl ?_
        refine g_pure (p_indexAddr rfl rfl (by omega) (fun _ => rfl)) rfl ?_
        refine g_yes rfl rfl ?_
        refine g_pure (p_load (by rfl) rfl (Has.own (by repeat' (first | exact Take.here | apply Take.there))) xu) rfl ?_
        refine g_yes rfl rfl ?_
        refine g_pure (p_neq rfl rfl) rfl ?_
        first | refine g_pure (p_pickt rfl rfl) rfl ?_ | refine g_pure (p_pickf rfl rfl) rfl ?_
        refine g_nil ?_
        refine g_qt ?_
        refine g_ifnd rfl (fun h => ?_) (fun h => ?_)
        · refine g_skip ?_
          refine g_qt ?_
          refine g_block ?_
          refine g_region ?_
          refine g_pure (p_move rfl) rfl ?_
          first | refine g_pure (p_addi rfl rfl (by omega)) rfl ?_ | refine g_pure (p_add rfl rfl) rfl ?_
          refine g_pure (p_assign rfl) rfl ?_
          refine g_nil ?_
          refine g_qb ?_
          refine g_qn ?_
          refine g_next (u + 1) (by repeat (first | exact trivial | refine ⟨by rfl, ?_⟩)) (by repeat' (first | exact Cover.nil | exact Take.here | apply Cover.cons | apply Take.there)) ⟨by omega, by omega, fun w h1 h2 => ?_⟩ (by omega)
          by_cases e : w = u
          · subst e
            intro e2
            rw [e2] at h
            exact h rfl
          · exact hu3 w h1 (by omega)
        · refine g_exit ?_
          refine g_qt_exit ?_
          refine g_qn_exit ?_
          refine g_qb_exit ?_
          refine g_qn ?_
          refine g_fold (k := p.n + 1) (cap := vc) (size := 1) (g := gv) (by repeat' (first | exact Take.here | apply Take.there)) v1 v2 v3 v4 ?_
          refine g_joined u (by repeat (first | exact trivial | refine ⟨by rfl, ?_⟩)) (by repeat' (first | exact Cover.nil | exact Take.here | apply Cover.cons | apply Take.there)) ⟨hu1, hu2, hu3, fun _ => ?_⟩
          cases e : V u with
          | none => rfl
          | some y => rw [e] at h; cases y <;> simp [vcode] at h
      · refine g_no rfl rfl rfl rfl ?_
        refine g_no rfl rfl rfl rfl ?_
        refine g_no rfl rfl rfl rfl ?_
        refine g_no rfl rfl rfl rfl ?_
        refine g_no rfl rfl rfl rfl ?_
        refine g_no rfl rfl rfl rfl ?_
        refine g_no rfl rfl rfl rfl ?_
        refine g_no rfl rfl rfl rfl ?_
        first | refine g_pure (p_pickt rfl rfl) rfl ?_ | refine g_pure (p_pickf rfl rfl) rfl ?_
        refine g_nil ?_
        refine g_qt ?_
        refine g_iff rfl ?_
        refine g_exit ?_
        refine g_qt_exit ?_
        refine g_qn_exit ?_
        refine g_qb_exit ?_
        refine g_qn ?_
        refine g_fold (k := p.n + 1) (cap := vc) (size := 1) (g := gv) (by repeat' (first | exact Take.here | apply Take.there)) v1 v2 v3 v4 ?_
        exact g_joined u (by repeat (first | exact trivial | refine ⟨by rfl, ?_⟩)) (by repeat' (first | exact Cover.nil | exact Take.here | apply Cover.cons | apply Take.there)) ⟨hu1, hu2, hu3, fun h => by omega⟩
    rintro u ⟨hu1, hu2, hu3, hu4⟩
    refine g_qt ?_
    refine g_seq ?_
    refine g_seq ?_
    refine g_region ?_
    refine g_pure (p_move rfl) rfl ?_
    refine g_pure (p_nilCheck rfl) rfl ?_
    refine g_pure (p_fieldAddr rfl) rfl ?_
    refine g_pure (p_load (by rfl) rfl (by first | (apply Has.own; (repeat' (first | exact Take.here | apply Take.there)); done) | exact Has.ro (by assumption)) (by first | rfl | assumption)) rfl ?_
    refine g_pure (p_eql rfl rfl) rfl ?_
    refine g_nil ?_
    refine g_qt ?_
    refine g_ifd rfl (fun z => ?_) (fun z => ?_)
    · have hsat : satF F V := (trues_sat F V).1 (by omega)
      refine sv_close (V := V) (T := T) (X := trues F V) (d := d) (by repeat' (first | exact Cover.nil | exact Take.here | apply Cover.cons | apply Take.there)) rfl rfl rfl rfl rfl rfl ?_
      refine g_seq ?_
      refine g_region ?_
      refine g_pure (p_move rfl) rfl ?_
      refine g_call (Hin := []) (Hr := ?hr6) (R := ?rr6) rfl rfl rfl ?hin6 ?hc6 ?hk6
      case hin6 => repeat' (first | exact Cover.nil | exact Take.here | apply Cover.cons | apply Take.there)
      case hc6 => intro ρ' hρ hR; exact model_ok hvars hR.1
      rintro _ _ ⟨am, rfl, rfl⟩
      refine g_pure (p_assign rfl) rfl ?_
      refine g_pure (p_assign rfl) rfl ?_
      refine g_nil ?_
      refine g_qt ?_
      refine g_ret ?_
      refine g_qt_ret ?_
      refine g_qb_ret ?_
      refine g_qn_ret ?_
      refine g_qb_ret ?_
      refine g_qt_ret ?_
      refine g_qs_ret ?_
      exact g_post (Ho := [OwnSl 4 1 am p.n p.n (mcells p.n V)]) (rs := [.tmp 4, .tmp 5]) rfl (.tmp rfl (.tmp rfl .nil)) ⟨.sat V, am, p.n, hx.res _ (.sat hpr hsat), by simp [tupled, ocode, ocells, mcells_len], by simp [ocells, mcells_len]⟩ (by repeat' (first | exact Cover.nil | exact Take.here | apply Cover.cons | apply Take.there))
    · have hsat : ¬ satF F V := fun h => z (by rw [(trues_sat F V).2 h]; rfl)
      obtain ⟨w0, hw1, hw2, hw3⟩ := hpr.2.2.open hO.lits hsat
      have hun : u ≤ p.n := by
        by_cases e : u ≤ p.n
        · exact e
        · exact absurd hw3 (hu3 w0 hw1 (by omega))
      have hleast : Least p.n V u := ⟨⟨hu1, hun⟩, hu4 hun, hu3⟩
      have hpos : lv V (u : Int) = none := by rw [lv_pos _ hu1]; exact hu4 hun
      have hokn : okL p.n (u : Int) := ⟨by omega, by omega, by omega⟩
      have hti2 := (hx.inv.ti.set hokn hpos).inv (F := F)
      dsimp only at hti2
      have hpend := hpr.2.2.pend hO.lits (T := T) hokn.1 hpos
      have hset : setF V T [(u : Int)] = (true, put V (u : Int), T ++ [(u : Int)]) := by rw [setF_cons, hpos]; rfl
      refine g_skip ?_
      refine g_qt ?_
      refine g_seq ?_
      refine g_seq ?_
      refine g_region ?_
      refine g_pure (p_move rfl) rfl ?_
      refine g_pure (p_move rfl) rfl ?_
      refine g_pure (p_eql rfl rfl) rfl ?_
      refine g_nil ?_
      refine g_qt ?_
      refine g_ifd rfl (fun m => ?_) (fun m => ?_)
      · refine g_ownnil (e := 4) (size := 1) ?_
        refine g_seq ?_
        refine g_region ?_
        refine g_pure (p_assign rfl) rfl ?_
        refine g_pure (p_assign rfl) rfl ?_
        refine g_nil ?_
        refine g_qt ?_
        refine g_ret ?_
        refine g_qt_ret ?_
        refine g_qb_ret ?_
        refine g_qn_ret ?_
        refine g_qb_ret ?_
        refine g_qt_ret ?_
        refine g_qs_ret ?_
        exact g_post (rs := [.tmp 4, .tmp 5]) rfl (.tmp rfl (.tmp rfl .nil)) ⟨.unk, none, 0, hx.res _ (.unk hpr hsat m), rfl, rfl⟩ (by repeat' (first | exact Cover.nil | exact Take.here | apply Cover.cons | apply Take.there))
      · refine g_skip ?_
        refine g_qt ?_
        refine g_seq ?_
        refine g_region ?_
        refine g_pure (p_move rfl) rfl ?_
        first | refine g_pure (p_addi rfl rfl (by omega)) rfl ?_ | refine g_pure (p_add rfl rfl) rfl ?_
        refine g_pure (p_assign rfl) rfl ?_
        refine g_nil ?_
        refine g_qt ?_
        refine g_seq ?_
        refine g_region ?_
        refine g_pure (p_move rfl) rfl ?_
        refine g_pure (p_move rfl) rfl ?_
        refine g_pure (p_move rfl) rfl ?_
        refine g_pure (p_nilCheck rfl) rfl ?_
        refine g_pure (p_fieldAddr rfl) rfl ?_
        refine g_pure (p_load (by rfl) rfl (by first | (apply Has.own; (repeat' (first | exact Take.here | apply Take.there)); done) | exact Has.ro (by assumption)) (by first | rfl | assumption)) rfl ?_
        refine g_pure (p_len (by rfl) rfl) rfl ?_
        refine g_pure (p_build (by rfl) rfl (by rfl)) rfl ?_
        refine g_eff (e_bs (xs := [.tmp 106]) rfl rfl rfl (by rfl) (by rfl) rfl (by rfl)) rfl (fun _ _ => ?_)
        rintro ⟨b107, rfl, rfl⟩
        refine g_eff (e_appendO (by rfl) (by rfl) rfl rfl (by first | (apply Has.own; (repeat' (first | exact Take.here | apply Take.there)); done) | exact Has.ro (by assumption)) (by rfl) (by rfl) (by repeat' (first | exact Take.here | apply Take.there)) (by omega) (by first | omega | (dsimp only; omega) | (simp <;> omega)) (by omega)) rfl (fun _ _ => ?_)
        rintro ⟨a108, c108, rfl, rfl⟩
        refine g_pure (p_assign rfl) rfl ?_
        refine g_nil ?_
        refine g_qt ?_
        refine g_seq ?_
        refine sv_close (V := V) (T := T) (X := trues F V) (d := d) (by repeat' (first | exact Cover.nil | exact Take.here | apply Cover.cons | apply Take.there)) rfl rfl rfl rfl rfl rfl ?_
        rw [hd]
        refine g_region ?_
        refine g_pure (p_move rfl) rfl ?_
        refine g_pure (p_move rfl) rfl ?_
        refine g_eff (e_bs (xs := [.tmp 110]) rfl rfl rfl (by rfl) (by rfl) rfl (by rfl)) rfl (fun _ _ => ?_)
        rintro ⟨b111, rfl, rfl⟩
        refine g_call (Hin := [Sv s p V T (trues F V) T.length]) (Hr := ?hr7) (R := ?rr7) rfl rfl rfl ?hin7 ?hc7 ?hk7
        case hin7 => repeat' (first | exact Cover.nil | exact Take.here | apply Cover.cons | apply Take.there)
        case hc7 => intro ρ' hρ hR; exact set_at (ls := [(u : Int)]) hO hm (hU.mono hρ) hx.inv.cnt hset (.of_blk hR.1.blk (by simp)) (by simp) (by simp; exact hokn)
        rintro _ _ ⟨rfl, rfl⟩
        refine g_pure (p_move rfl) rfl ?_
        refine g_yes rfl rfl ?_
        refine g_pure (p_move rfl) rfl ?_
        refine g_yes rfl rfl ?_
        refine g_call (Hin := [Sv s p (put V (u : Int)) (T ++ [(u : Int)]) (trues F (put V (u : Int))) T.length]) (Hr := ?hr8) (R := ?rr8) rfl rfl rfl ?hin8 ?hc8 ?hk8
        case hin8 => repeat' (first | exact Cover.nil | exact Take.here | apply Cover.cons | apply Take.there)
        case hc8 => intro ρ' hρ hR; exact prop_at hO hm (hU.mono hρ) (hF.mono hρ) hti2 (by simp) hpend
        rintro _ _ ⟨b2, V2, T2, d2, rfl, rfl, hI2, hp2, hn2, hy2⟩
        first | refine g_pure (p_pickt rfl rfl) rfl ?_ | refine g_pure (p_pickf rfl rfl) rfl ?_
        refine g_pure (p_assign rfl) rfl ?_
        refine g_nil ?_
        refine g_qt ?_
        refine g_exit ?_
        refine g_qb_exit ?_
        refine g_qn ?_
        have hst := hx.dec rfl hsat m hleast (la := a108) (lc := c108) hI2 hp2 hn2 hy2
        dsimp only at hst
        obtain ⟨D2, hD2⟩ : ∃ D2, D2 = D ++ [(u, T.length, false)] := ⟨_, rfl⟩
        have hl2 : D.length + 1 = D2.length := by rw [hD2]; simp
        have hf2 : D.flatMap encD ++ encD (u, T.length, false) = D2.flatMap encD := by rw [hD2]; simp
        rw [← hD2] at hst
        rw [hl2]
        refine g_weak (A := OwnSl 66 3 a108 D2.length c108 (D.flatMap encD ++ encD (u, T.length, false))) (B := OwnSl 66 3 a108 D2.length c108 (D2.flatMap encD)) (by repeat' (first | exact Take.here | apply Take.there)) (fun h hh => by rw [← hf2]; exact hh) ?_
        exact g_next ⟨b2, _, V2, T2, d2, D2, k + 1, u, a108, c108⟩ (by repeat (first | exact trivial | refine ⟨by rfl, ?_⟩)) (by repeat' (first | exact Cover.nil | exact Take.here | apply Cover.cons | apply Take.there)) hst.1 (Nat.lt_of_lt_of_le hst.2 hmu)
end Go.Proofs.Ytbpgblbhikeglaa
