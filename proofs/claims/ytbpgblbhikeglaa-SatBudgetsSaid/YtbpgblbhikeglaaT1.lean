/- Chapter 37: literals taken back. Conditions: none. -/
import Derived.Test.YtbpgblbhikeglaaT0
namespace Go.Proofs.Ytbpgblbhikeglaa
set_option linter.unusedVariables false
set_option linter.unusedSimpArgs false
set_option linter.unusedSectionVars false
open Go Go.Z Go.Z.Sat

theorem undo_ok {ρ : Nat → Obj → Prop} {s : Nat} {p : Sp} {F : Fm} (hO : Ok p.n F) (hm : p.m = F.length) (hU : RSl2 ρ p.ua (usesV p.n F)) {a V : As} {T : List Int} {d : Nat} (hI : Inv p.n F a V T) (k : Nat) (hk : k < T.length) :
    Con Try.prog ρ 37 #[.pointer (some ⟨s, 0, none⟩), .int .i64 k] [Sv s p V T (trues F V) d] (fun v H => v = .tuple #[] ∧ H = [Sv s p (asg (T.take k)) (T.take k) (trues F (asg (T.take k))) k]) := by
  have hlen := hO.len
  have hvars := hO.vars
  obtain ⟨bu, ou, ku, Tu, fu, u1, u2, u3⟩ := usesV_at hU
  have hTn : T.length ≤ p.n := by have := hI.cnt; omega
  refine con_intro Try.func37 Try.call37 rfl Try.ntmps37 rfl (L := [(0, _), (1, _)]) rfl fun w hh => ?_
  refine g_open .here ?_
  rintro _ ⟨va, vc, ta, tc, xa, xc, rfl⟩
  refine g_own (.there .here) (fun _ h _ _ => absurd h (by omega)) ?_
  rintro gv curv0 rfl v1 v2 v3 v4 v5
  refine g_fold (k := p.n + 1) (cap := vc) (size := 1) .here v1 v2 v3 v4 ?_
  refine g_own (a1 := ta) (.there (.there .here)) (fun _ h _ _ => absurd h (by omega)) ?_
  rintro gt curt rfl q1 q2 q3 q4 q5
  have had : 0 < T.length - (k : Int).toNat → (if tc = (k : Int).toNat then some (⟨gt, 0, none⟩ : Addr) else (some ⟨gt, 0, none⟩ : Option Addr).map (·.add ((k : Int).toNat * 1))) = some ⟨gt, k, none⟩ := fun hlt => by
    rw [if_neg (by omega)]
    simp only [Option.map_some, Int.toNat_natCast, Addr.add]
    split <;> simp_all
  refine g_seq ?_
  refine g_seq ?_
  refine g_region ?_
  refine g_pure (p_move rfl) rfl ?_
  refine g_pure (p_nilCheck rfl) rfl ?_
  refine g_pure (p_fieldAddr rfl) rfl ?_
  refine g_pure (p_load (by rfl) rfl (by first | (apply Has.own; (repeat' (first | exact Take.here | apply Take.there)); done) | exact Has.ro (by assumption)) (by first | rfl | assumption)) rfl ?_
  refine g_pure (p_move rfl) rfl ?_
  refine g_pure (p_slicel rfl rfl (by omega)) rfl ?_
  refine g_pure (p_len (by rfl) rfl) rfl ?_
  refine g_pure (p_move rfl) rfl ?_
  refine g_nil ?_
  refine g_qt ?_
  refine g_block ?_
  refine g_loop (fun j : Nat => [(0, .pointer (some ⟨s, 0, none⟩)), (1, .int .i64 k), (13, .slice (if tc = (k : Int).toNat then some (⟨gt, 0, none⟩ : Addr) else (some ⟨gt, 0, none⟩ : Option Addr).map (·.add ((k : Int).toNat * 1))) (T.length - (k : Int).toNat) (tc - (k : Int).toNat)), (14, .int .i64 (T.length - (k : Int).toNat : Nat)), (15, .int .i64 j)])
    (fun j => [Blk gt (.cells curt.toArray 3 (0, 0)), OwnSl 3 1 (some ⟨gv, 0, none⟩) (p.n + 1) vc (vcells p.n (unputs V ((T.drop k).take j))), Blk s (.cells [.int .i64 p.n, .slice p.ca p.m p.cc, .slice (some ⟨gv, 0, none⟩) (p.n + 1) vc, .slice (some ⟨gt, 0, none⟩) T.length tc, .slice p.ua (2 * p.n + 2) p.uc, .slice xa p.m xc, .int .i64 ((trues F (unputs V ((T.drop k).take j))).count 0 : Nat), .int .i64 d].toArray 57 (0, 0)),
      OwnSl 3 1 xa p.m xc ((trues F (unputs V ((T.drop k).take j))).map encN)]) (fun j => j ≤ T.length - k) (fun j => T.length - k - j) 0 (Nat.zero_le _) (by repeat (first | exact trivial | refine ⟨by rfl, ?_⟩)) (by repeat' (first | exact Cover.nil | exact Take.here | apply Cover.cons | apply Take.there)) ?_
  intro j hj
  refine g_seq ?_
  refine g_region ?_
  refine g_pure (p_lss rfl rfl) rfl ?_
  refine g_nil ?_
  refine g_qt ?_
  refine g_seq ?_
  refine g_ifd rfl (fun q => ?_) (fun q => ?_)
  · have hjl : k + j < T.length := by omega
    have xt : curt[k + (j : Int).toNat * 1]? = some (encI T[k + j]) := own_at (k := k + j) q4 (by simp) (mapI _ hjl)
    have hl := hI.lits T[k + j] (List.getElem_mem hjl)
    have hW := hI.at hjl
    have hN := Inv.next (V := V) hjl
    generalize hlk : T[k + j] = l at *
    generalize hW1 : unputs V ((T.drop k).take j) = W1 at *
    obtain ⟨h0, hl1, hl2⟩ := id hl
    obtain ⟨ai, ci, w1, _, bi, oi, ki, Ti, fi, w2⟩ := u3 l hl
    have hrl := hO.rows (uix l)
    have htp := trues_put hO.lits h0 (lv_unput W1 l)
    rw [put_unput hW] at htp
    obtain ⟨us, hus⟩ : ∃ us, us = useRow F (uix l) := ⟨_, rfl⟩
    refine g_own (e := 3) (size := 1) (a1 := some ⟨gv, 0, none⟩) (k := p.n + 1) (.there .here) (fun h _ _ _ => by cases h) ?_
    rintro gv' curv hgv y1 y2 y3 y4 y5
    cases hgv
    refine g_skip ?_
    refine g_qt ?_
    refine g_seq ?_
    refine g_block ?_
    refine g_seq ?_
    refine g_region ?_
    refine g_pure (p_indexAddr rfl rfl (by omega) had) rfl ?_
    refine g_pure (p_load (by rfl) rfl (Has.own (by repeat' (first | exact Take.here | apply Take.there))) xt) rfl ?_
    refine g_pure (p_assign rfl) rfl ?_
    refine g_nil ?_
    refine g_qt ?_
    refine g_seq ?_
    refine g_region ?_
    refine g_pure (p_move rfl) rfl ?_
    refine g_pure (p_nilCheck rfl) rfl ?_
    refine g_pure (p_fieldAddr rfl) rfl ?_
    refine g_pure (p_load (by rfl) rfl (by first | (apply Has.own; (repeat' (first | exact Take.here | apply Take.there)); done) | exact Has.ro (by assumption)) (by first | rfl | assumption)) rfl ?_
    refine g_pure (p_move rfl) rfl ?_
    refine g_pure (p_move rfl) rfl ?_
    first | refine g_pure (p_negi rfl (by omega)) rfl ?_ | refine g_pure (p_neg rfl) rfl ?_
    refine g_pure (p_max rfl rfl) rfl ?_
    refine g_pure (p_indexAddr rfl rfl (by omega) (fun _ => rfl)) rfl ?_
    refine g_eff0 (e_store1 (by rfl) rfl rfl rfl (by repeat' (first | exact Take.here | apply Take.there)) (by simp; omega)) (fun _ _ => ?_)
    rintro rfl
    refine g_nil ?_
    refine g_qt ?_
    refine g_seq ?_
    refine m_begin0 (.fl 0 0 (.fl 1 0 (.fl 2 0 (.fl 3 1 (.fl 4 0 (.fl 9 0 (.ef 5 (.fl 6 0 (.fl 7 1 (.fl 8 0 .done)))))))))) (by kernel_rfl) (by kernel_rfl) ?_
    refine m_float0 rfl (fun _ _ => p_move rfl) rfl ?_
    refine m_float0 rfl (fun _ _ => p_nilCheck rfl) rfl ?_
    refine m_float0 rfl (fun _ _ => p_fieldAddr rfl) rfl ?_
    refine m_float rfl (p_load (by rfl) rfl (by first | (apply Has.own; (repeat' (first | exact Take.here | apply Take.there)); done) | exact Has.ro (by assumption)) (by first | rfl | assumption)) rfl ?_
    refine m_float0 rfl (fun _ _ => p_move rfl) rfl ?_
    refine m_float0 rfl (fun _ _ => p_move rfl) rfl ?_
    refine m_call (Hin := []) (Hr := ?hr1) (R := ?rr1) rfl wantedN rfl rfl rfl ?hin1 ?hc1 ?hk1
    case hin1 => repeat' (first | exact Cover.nil | exact Take.here | apply Cover.cons | apply Take.there)
    case hc1 => intro ρ' hρ hR; exact index_ok l (by omega)
    rintro _ _ ⟨rfl, rfl⟩
    refine ⟨.some (by repeat' (first | exact Cover.nil | exact Take.here | apply Cover.cons | apply Take.there)), ?_⟩
    refine m_float0 rfl (fun _ _ => p_indexAddr rfl rfl (by unfold uix; split <;> omega) (fun _ => u1)) rfl ?_
    refine m_float rfl (p_load (by rfl) rfl (Has.ro u2) w1) rfl ?_
    refine m_float0 rfl (fun _ _ => p_len (by rfl) rfl) rfl ?_
    refine m_nil ?_
    refine g_qt ?_
    refine g_block ?_
    have ho : 0 + (max l (-l)).toNat * 1 = l.natAbs := by omega
    refine g_fold (k := p.n + 1) (cap := vc) (size := 1) (g := gv) (xs := vcells p.n (unput W1 l)) (by repeat' (first | exact Take.here | apply Take.there)) y1 y2 (by simp; omega) (set_take y4 (by rw [← vcells_unput hl]; show List.set _ (0 + (max l (-l)).toNat * 1) _ = _; rw [ho])) ?_
    rw [← hus] at htp hrl w2 ⊢
    refine g_loop (fun i : Nat => [(0, .pointer (some ⟨s, 0, none⟩)), (1, .int .i64 k), (13, .slice (if tc = (k : Int).toNat then some (⟨gt, 0, none⟩ : Addr) else (some ⟨gt, 0, none⟩ : Option Addr).map (·.add ((k : Int).toNat * 1))) (T.length - (k : Int).toNat) (tc - (k : Int).toNat)), (14, .int .i64 (T.length - (k : Int).toNat : Nat)), (15, .int .i64 j), (35, .slice ai us.length ci), (36, .int .i64 us.length), (37, .int .i64 i)])
      (fun i => [Blk gt (.cells curt.toArray 3 (0, 0)), OwnSl 3 1 (some ⟨gv, 0, none⟩) (p.n + 1) vc (vcells p.n (unput W1 l)), Blk s (.cells [.int .i64 p.n, .slice p.ca p.m p.cc, .slice (some ⟨gv, 0, none⟩) (p.n + 1) vc, .slice (some ⟨gt, 0, none⟩) T.length tc, .slice p.ua (2 * p.n + 2) p.uc, .slice xa p.m xc, .int .i64 ((bump (trues F (unput W1 l)) (us.drop i)).count 0 : Nat), .int .i64 d].toArray 57 (0, 0)),
        OwnSl 3 1 xa p.m xc ((bump (trues F (unput W1 l)) (us.drop i)).map encN)]) (fun i => i ≤ us.length) (fun i => us.length - i) 0 (Nat.zero_le _) (by repeat (first | exact trivial | refine ⟨by rfl, ?_⟩)) (by rw [List.drop_zero, htp]; exact (by repeat' (first | exact Cover.nil | exact Take.here | apply Cover.cons | apply Take.there))) ?_
    intro i hi0
    refine g_seq ?_
    refine g_region ?_
    refine g_pure (p_lss rfl rfl) rfl ?_
    refine g_nil ?_
    refine g_qt ?_
    refine g_seq ?_
    refine g_ifd rfl (fun r => ?_) (fun r => ?_)
    · have hil : i < us.length := by omega
      obtain ⟨hi, -⟩ := useRow_lt (F := F) (k := uix l) (i := us[i]) (by rw [← hus]; exact List.getElem_mem hil)
      obtain ⟨w3, w4, w5⟩ := w2 (by omega)
      have x2 : ki[oi + (i : Int).toNat * 1]? = some (encN us[i]) := flat2 w5 (i := i) (by simp [List.getElem?_eq_getElem hil]) (by simp)
      have etk : bump (trues F (unput W1 l)) (us.drop i) = bump1 (bump (trues F (unput W1 l)) (us.drop (i + 1))) us[i] := by
        rw [List.drop_eq_getElem_cons hil, bump_cons]
      have hYl : (bump (trues F (unput W1 l)) (us.drop (i + 1))).length = F.length := by rw [bump_len, trues_len]
      have hXl : (bump (trues F (unput W1 l)) (us.drop i)).length = F.length := by rw [bump_len, trues_len]
      have hXb : (bump (trues F (unput W1 l)) (us.drop i)).getD us[i] 0 ≤ F[us[i]].length := by
        have h1 := bump_get (us.drop i) (trues F (unput W1 l)) us[i] (by rw [trues_len]; exact hi)
        have h2 := bump_get us (trues F (unput W1 l)) us[i] (by rw [trues_len]; exact hi)
        have h3 := trues_le F W1 us[i] hi
        rw [← htp, h2] at h3
        have h4 : (us.drop i).count us[i] ≤ us.count us[i] := (List.drop_sublist i us).count_le _
        omega
      have hXm := hO.lens F[us[i]] (List.getElem_mem hi)
      have hcl : (bump (trues F (unput W1 l)) (us.drop i)).count 0 ≤ 1000000 := Nat.le_trans List.count_le_length (by rw [hXl]; exact hO.len)
      have hb1 := bump1_count (X := bump (trues F (unput W1 l)) (us.drop (i + 1))) (i := us[i]) (by rw [hYl]; exact hi)
      have hb2 := bump1_get (bump (trues F (unput W1 l)) (us.drop (i + 1))) us[i] us[i]
      rw [if_pos ⟨rfl, by rw [hYl]; exact hi⟩] at hb2
      rw [← etk] at hb1 hb2
      generalize hX : bump (trues F (unput W1 l)) (us.drop i) = X at *
      generalize hY : bump (trues F (unput W1 l)) (us.drop (i + 1)) = Y at *
      refine g_own (a1 := xa) (k := p.m) (.there (.there (.there .here))) (fun _ h _ _ => absurd h (by omega)) ?_
      rintro gx curx rfl z1 z2 z3 z4 z5
      have hget : X[us[i]]? = some (X.getD us[i] 0) := by rw [List.getD_eq_getElem?_getD, List.getElem?_eq_getElem (by rw [hXl]; exact hi)]; rfl
      have xx : curx[0 + ((us[i] : Nat) : Int).toNat * 1]? = some (encN (X.getD us[i] 0)) := own_at (k := us[i]) z4 (by simp) (by rw [List.getElem?_map, hget]; rfl)
      have hfin : (curx.set (0 + ((us[i] : Nat) : Int).toNat * 1) (.int .i64 ((X.getD us[i] 0 : Nat) - 1 : Int))).take (p.m * 1) = Y.map encN := by
        refine set_take z4 ?_
        have e3 : X.map encN = (Y.map encN).set us[i] (encN (Y.getD us[i] 0 + 1)) := by rw [etk]; unfold bump1; rw [List.map_set]
        have e4 : (0 + ((us[i] : Nat) : Int).toNat * 1) = us[i] := by simp
        have e2 : Y.getD us[i] 0 = Y[us[i]]'(by rw [hYl]; exact hi) := by rw [List.getD_eq_getElem?_getD, List.getElem?_eq_getElem (by rw [hYl]; exact hi)]; rfl
        rw [hb2, e3, e4, List.set_set]
        refine List.ext_getElem? fun q => ?_
        rw [List.getElem?_set]
        by_cases hq : us[i] = q
        · rw [if_pos hq, if_pos (by simp; omega), ← hq, List.getElem?_map, List.getElem?_eq_getElem (by rw [hYl]; exact hi), e2]
          simp [encN]
        · rw [if_neg hq]
      generalize hx0 : X.getD us[i] 0 = x0 at *
      generalize hy0 : Y.getD us[i] 0 = y0 at *
      have xy : (curx.set (0 + ((us[i] : Nat) : Int).toNat * 1) (.int .i64 ((x0 : Nat) - 1 : Int)))[0 + ((us[i] : Nat) : Int).toNat * 1]? = some (.int .i64 ((x0 : Nat) - 1 : Int)) := by
        rw [List.getElem?_set_self (List.getElem?_eq_some_iff.1 xx).1]
      refine g_skip ?_
      refine g_qt ?_
      refine g_seq ?_
      refine g_block ?_
      refine g_seq ?_
      refine g_region ?_
      refine g_pure (p_indexAddr rfl rfl (by omega) (fun _ => w3)) rfl ?_
      refine g_pure (p_load (by rfl) rfl (Has.ro w4) x2) rfl ?_
      refine g_pure (p_assign rfl) rfl ?_
      refine g_nil ?_
      refine g_qt ?_
      refine g_seq ?_
      refine g_region ?_
      refine g_pure (p_move rfl) rfl ?_
      refine g_pure (p_nilCheck rfl) rfl ?_
      refine g_pure (p_fieldAddr rfl) rfl ?_
      refine g_pure (p_load (by rfl) rfl (by first | (apply Has.own; (repeat' (first | exact Take.here | apply Take.there)); done) | exact Has.ro (by assumption)) (by first | rfl | assumption)) rfl ?_
      refine g_pure (p_move rfl) rfl ?_
      refine g_pure (p_indexAddr rfl rfl (by omega) (fun _ => rfl)) rfl ?_
      refine g_pure (p_load (by rfl) rfl (Has.own (by repeat' (first | exact Take.here | apply Take.there))) xx) rfl ?_
      first | refine g_pure (p_subi rfl rfl (by omega)) rfl ?_ | refine g_pure (p_sub rfl rfl) rfl ?_
      refine g_pure (p_indexAddr rfl rfl (by omega) (fun _ => rfl)) rfl ?_
      refine g_eff0 (e_store1 (by rfl) rfl rfl rfl (by repeat' (first | exact Take.here | apply Take.there)) (by simp; omega)) (fun _ _ => ?_)
      rintro rfl
      refine g_nil ?_
      refine g_qt ?_
      refine g_seq ?_
      refine g_region ?_
      refine g_pure (p_move rfl) rfl ?_
      refine g_pure (p_nilCheck rfl) rfl ?_
      refine g_pure (p_fieldAddr rfl) rfl ?_
      refine g_pure (p_load (by rfl) rfl (by first | (apply Has.own; (repeat' (first | exact Take.here | apply Take.there)); done) | exact Has.ro (by assumption)) (by first | rfl | assumption)) rfl ?_
      refine g_pure (p_move rfl) rfl ?_
      refine g_pure (p_indexAddr rfl rfl (by omega) (fun _ => rfl)) rfl ?_
      refine g_pure (p_load (by rfl) rfl (Has.own (by repeat' (first | exact Take.here | apply Take.there))) xy) rfl ?_
      refine g_pure (p_eql rfl rfl) rfl ?_
      refine g_nil ?_
      refine g_qt ?_
      refine g_ifd rfl (fun r0 => ?_) (fun r0 => ?_)
      · refine g_region ?_
        refine g_pure (p_move rfl) rfl ?_
        refine g_pure (p_nilCheck rfl) rfl ?_
        refine g_pure (p_fieldAddr rfl) rfl ?_
        refine g_pure (p_load (by rfl) rfl (by first | (apply Has.own; (repeat' (first | exact Take.here | apply Take.there)); done) | exact Has.ro (by assumption)) (by first | rfl | assumption)) rfl ?_
        first | refine g_pure (p_addi rfl rfl (by omega)) rfl ?_ | refine g_pure (p_add rfl rfl) rfl ?_
        refine g_pure (p_nilCheck rfl) rfl ?_
        refine g_pure (p_fieldAddr rfl) rfl ?_
        first | refine g_eff0 (e_storeO rfl rfl (by rfl) (by rfl) (by rfl) (by repeat' (first | exact Take.here | apply Take.there)) (by rfl)) (fun _ _ => ?_) | refine g_eff0 (e_store1 (by rfl) rfl rfl rfl (by repeat' (first | exact Take.here | apply Take.there)) (by first | decide | (simp <;> omega) | omega)) (fun _ _ => ?_)
        rintro rfl
        refine g_nil ?_
        refine g_qb ?_
        refine g_qt ?_
        refine g_region ?_
        first | refine g_pure (p_addi rfl rfl (by omega)) rfl ?_ | refine g_pure (p_add rfl rfl) rfl ?_
        refine g_pure (p_move rfl) rfl ?_
        refine g_nil ?_
        refine g_qn ?_
        rw [if_pos (by omega)] at hb1
        have ec : ((X.count 0 : Nat) : Int) + 1 = ((Y.count 0 : Nat) : Int) := by omega
        rw [ec]
        refine g_fold (k := p.m) (cap := xc) (size := 1) (g := gx) (xs := Y.map encN) (by repeat' (first | exact Take.here | apply Take.there)) z1 z2 (by simp; omega) hfin ?_
        subst hY
        exact g_next (i + 1) (by repeat (first | exact trivial | refine ⟨by rfl, ?_⟩)) (by repeat' (first | exact Cover.nil | exact Take.here | apply Cover.cons | apply Take.there)) (by omega) (by omega)
      · refine g_skip ?_
        refine g_qb ?_
        refine g_qt ?_
        refine g_region ?_
        first | refine g_pure (p_addi rfl rfl (by omega)) rfl ?_ | refine g_pure (p_add rfl rfl) rfl ?_
        refine g_pure (p_move rfl) rfl ?_
        refine g_nil ?_
        refine g_qn ?_
        rw [if_neg (by omega)] at hb1
        have ec : X.count 0 = Y.count 0 := by omega
        rw [ec]
        refine g_fold (k := p.m) (cap := xc) (size := 1) (g := gx) (xs := Y.map encN) (by repeat' (first | exact Take.here | apply Take.there)) z1 z2 (by simp; omega) hfin ?_
        subst hY
        exact g_next (i + 1) (by repeat (first | exact trivial | refine ⟨by rfl, ?_⟩)) (by repeat' (first | exact Cover.nil | exact Take.here | apply Cover.cons | apply Take.there)) (by omega) (by omega)
    · have hie : i = us.length := by omega
      subst hie
      rw [List.drop_length, show bump (trues F (unput W1 l)) [] = trues F (unput W1 l) from rfl, ← hN]
      refine g_exit ?_
      refine g_qt_exit ?_
      refine g_qn_exit ?_
      refine g_qb_exit ?_
      refine g_qb ?_
      refine g_qt ?_
      refine g_region ?_
      first | refine g_pure (p_addi rfl rfl (by omega)) rfl ?_ | refine g_pure (p_add rfl rfl) rfl ?_
      refine g_pure (p_move rfl) rfl ?_
      refine g_nil ?_
      refine g_qn ?_
      exact g_next (j + 1) (by repeat (first | exact trivial | refine ⟨by rfl, ?_⟩)) (by repeat' (first | exact Cover.nil | exact Take.here | apply Cover.cons | apply Take.there)) (by omega) (by omega)
  · have hje : j = T.length - k := by omega
    have hW : unputs V ((T.drop k).take j) = asg (T.take k) := by
      rw [List.take_of_length_le (by rw [List.length_drop]; omega)]; exact hI.cut (by omega)
    rw [hW]
    refine g_fold (k := T.length) (cap := tc) (size := 1) (g := gt) (xs := T.map encI) .here q1 q2 q3 q4 ?_
    refine g_weak .here (own_shrink (m := k) (by omega)) ?_
    refine g_exit ?_
    refine g_qt_exit ?_
    refine g_qn_exit ?_
    refine g_qb_exit ?_
    refine g_qt ?_
    refine g_seq ?_
    refine g_region ?_
    refine g_pure (p_move rfl) rfl ?_
    refine g_pure (p_move rfl) rfl ?_
    refine g_pure (p_nilCheck rfl) rfl ?_
    refine g_pure (p_fieldAddr rfl) rfl ?_
    refine g_pure (p_load (by rfl) rfl (by first | (apply Has.own; (repeat' (first | exact Take.here | apply Take.there)); done) | exact Has.ro (by assumption)) (by first | rfl | assumption)) rfl ?_
    refine g_pure (p_move rfl) rfl ?_
    refine g_pure (p_sliceh rfl rfl (by omega)) rfl ?_
    refine g_pure (p_nilCheck rfl) rfl ?_
    refine g_pure (p_fieldAddr rfl) rfl ?_
    first | refine g_eff0 (e_storeO rfl rfl (by rfl) (by rfl) (by rfl) (by repeat' (first | exact Take.here | apply Take.there)) (by rfl)) (fun _ _ => ?_) | refine g_eff0 (e_store1 (by rfl) rfl rfl rfl (by repeat' (first | exact Take.here | apply Take.there)) (by first | decide | (simp <;> omega) | omega)) (fun _ _ => ?_)
    rintro rfl
    refine g_nil ?_
    refine g_qt ?_
    refine g_region ?_
    refine g_pure (p_move rfl) rfl ?_
    refine g_pure (p_move rfl) rfl ?_
    refine g_pure (p_nilCheck rfl) rfl ?_
    refine g_pure (p_fieldAddr rfl) rfl ?_
    first | refine g_eff0 (e_storeO rfl rfl (by rfl) (by rfl) (by rfl) (by repeat' (first | exact Take.here | apply Take.there)) (by rfl)) (fun _ _ => ?_) | refine g_eff0 (e_store1 (by rfl) rfl rfl rfl (by repeat' (first | exact Take.here | apply Take.there)) (by first | decide | (simp <;> omega) | omega)) (fun _ _ => ?_)
    rintro rfl
    refine g_nil ?_
    refine sv_close (V := asg (T.take k)) (T := T.take k) (X := trues F (asg (T.take k))) (d := k) (by repeat' (first | exact Cover.nil | exact Take.here | apply Cover.cons | apply Take.there)) (by simp; omega) rfl rfl rfl (by simp) rfl ?_
    exact g_postn (rs := []) rfl .nil ⟨rfl, rfl⟩ (by repeat' (first | exact Cover.nil | exact Take.here | apply Cover.cons | apply Take.there))
end Go.Proofs.Ytbpgblbhikeglaa
