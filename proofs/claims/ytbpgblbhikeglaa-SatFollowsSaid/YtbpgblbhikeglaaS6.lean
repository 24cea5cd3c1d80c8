/- Chapter 37: literals made true. Conditions: none. -/
import Derived.Test.YtbpgblbhikeglaaS5
namespace Go.Proofs.Ytbpgblbhikeglaa
set_option linter.unusedVariables false
set_option linter.unusedSimpArgs false
set_option linter.unusedSectionVars false
open Go Go.Z Go.Z.Sat

structure Ok (n : Nat) (F : Fm) : Prop where
  lits : okF n F
  vars : n ≤ 262144
  len : F.length ≤ 1000000
  lens : ∀ c ∈ F, c.length ≤ 1000000
  rows : ∀ k, (useRow F k).length ≤ 1000000000000

def setF (V : As) (T : List Int) : List Int → Bool × As × List Int
  | [] => (true, V, T)
  | l :: ls => match lv V l with
    | some false => (false, V, T)
    | some true => setF V T ls
    | none => setF (put V l) (T ++ [l]) ls

theorem setF_cons (V : As) (T : List Int) (l : Int) (ls : List Int) : setF V T (l :: ls) = (match lv V l with
    | some false => (false, V, T)
    | some true => setF V T ls
    | none => setF (put V l) (T ++ [l]) ls) := rfl

def usesV (n : Nat) (F : Fm) : List (List Value) := (uses n F).map fun r => r.map encN
theorem usesV_at {ρ : Nat → Obj → Prop} {a : Option Addr} {n : Nat} {F : Fm} (h : RSl2 ρ a (usesV n F)) : ∃ b off cs T fz, a = some ⟨b, off, none⟩ ∧ ρ b (.cells (cs : List Value).toArray T fz) ∧ ∀ l, okL n l → ∃ ai ci, cs[off + (uix l).toNat * 1]? = some (.slice ai (useRow F (uix l)).length ci) ∧ RSl ρ 1 ai (useRow F (uix l)).length ((useRow F (uix l)).map encN) := by
  have hlen : (usesV n F).length = 2 * n + 2 := by simp [usesV, uses]
  obtain ⟨b, off, cs, T, fz, r1, r2, r3⟩ := h.at (by omega)
  refine ⟨b, off, cs, T, fz, r1, r2, fun l hl => ?_⟩
  have hu : 0 ≤ uix l ∧ uix l < 2 * n + 2 := by unfold uix; have := hl.2; split <;> omega
  obtain ⟨ai, ci, e1, e2⟩ := r3 (uix l).toNat (by omega)
  have e : (usesV n F)[(uix l).toNat]'(by omega) = (useRow F (uix l)).map encN := by
    simp only [usesV, uses, List.getElem_map, List.getElem_range]
    rw [Int.toNat_of_nonneg hu.1]
  rw [e, List.length_map] at e1 e2
  exact ⟨ai, ci, by rw [Nat.mul_one]; exact e1, e2⟩

theorem set_take {cur xs ys : List Value} {N o : Nat} {v : Value} (h : cur.take N = xs) (e : xs.set o v = ys) : (cur.set o v).take N = ys := by
  rw [List.take_set, h, e]

theorem set_ok {ρ : Nat → Obj → Prop} {s : Nat} {p : Sp} {F : Fm} (hO : Ok p.n F) (hm : p.m = F.length) (hU : RSl2 ρ p.ua (usesV p.n F)) (V : As) (T : List Int) (d : Nat) (hT : T.length + cnt p.n V = p.n)
    (a : Option Addr) (c : Nat) (ls : List Int) (hls : RSl ρ 1 a ls.length (ls.map encI)) (hlen : ls.length ≤ 9223372036854775806) (hok : ∀ l ∈ ls, okL p.n l) :
    Con Try.prog ρ 28 #[.pointer (some ⟨s, 0, none⟩), .slice a ls.length c] [Sv s p V T (trues F V) d] (fun v H => v = .bool (setF V T ls).1 ∧ H = [Sv s p (setF V T ls).2.1 (setF V T ls).2.2 (trues F (setF V T ls).2.1) d]) := by
  obtain ⟨_, bl, ol, kl, Tl, fl, hl⟩ := hls
  obtain ⟨bu, ou, ku, Tu, fu, u1, u2, u3⟩ := usesV_at hU
  have hvars := hO.vars
  refine con_intro Try.func28 Try.call28 rfl Try.ntmps28 rfl (L := [(0, _), (1, _)]) rfl fun w hh => ?_
  refine g_seq ?_
  refine g_region ?_
  refine g_pure (p_assign rfl) rfl ?_
  refine g_nil ?_
  refine g_qt ?_
  refine g_seq ?_
  refine g_seq ?_
  refine g_region ?_
  refine g_pure (p_move rfl) rfl ?_
  refine g_pure (p_len (by rfl) rfl) rfl ?_
  refine g_pure (p_move rfl) rfl ?_
  refine g_nil ?_
  refine g_qt ?_
  refine g_block ?_
  refine g_loop (fun q : Nat × As × List Int => [(0, .pointer (some ⟨s, 0, none⟩)), (9, .slice a ls.length c), (10, .int .i64 ls.length), (11, .int .i64 q.1)])
    (fun q => [Sv s p q.2.1 q.2.2 (trues F q.2.1) d]) (fun q => q.1 ≤ ls.length ∧ q.2.2.length + cnt p.n q.2.1 = p.n ∧ setF q.2.1 q.2.2 (ls.drop q.1) = setF V T ls) (fun q => ls.length - q.1) (0, V, T) ⟨Nat.zero_le _, hT, rfl⟩ (by repeat (first | exact trivial | refine ⟨by rfl, ?_⟩)) (by repeat' (first | exact Cover.nil | exact Take.here | apply Cover.cons | apply Take.there)) ?_
  rintro ⟨k, V1, T1⟩ ⟨hk, hT1, he⟩
  dsimp only at hk hT1 he ⊢
  refine g_seq ?_
  refine g_region ?_
  refine g_pure (p_lss rfl rfl) rfl ?_
  refine g_nil ?_
  refine g_qt ?_
  refine g_seq ?_
  refine g_ifd rfl (fun q => ?_) (fun q => ?_)
  · have hkl : k < ls.length := by omega
    obtain ⟨l1, l2, l3⟩ := hl (by omega)
    have x1 : kl[ol + (k : Int).toNat * 1]? = some (encI ls[k]) := flat2 l3 (i := k) (mapI _ hkl) (by simp)
    have hl0 := hok ls[k] (List.getElem_mem hkl)
    rw [List.drop_eq_getElem_cons hkl] at he
    generalize hlk : ls[k] = l at *
    obtain ⟨h0, hl1, hl2⟩ := id hl0
    refine g_skip ?_
    refine g_qt ?_
    refine g_seq ?_
    refine g_block ?_
    refine g_seq ?_
    refine g_region ?_
    refine g_pure (p_indexAddr rfl rfl (by omega) (fun _ => l1)) rfl ?_
    refine g_pure (p_load (by rfl) rfl (Has.ro l2) x1) rfl ?_
    refine g_pure (p_assign rfl) rfl ?_
    refine g_nil ?_
    refine g_qt ?_
    refine g_seq ?_
    refine g_seq ?_
    refine g_region ?_
    refine g_pure (p_move rfl) rfl ?_
    refine g_pure (p_move rfl) rfl ?_
    refine g_call (Hin := []) (Hr := ?hr1) (R := ?rr1) rfl rfl rfl ?hin1 ?hc1 ?hk1
    case hin1 => repeat' (first | exact Cover.nil | exact Take.here | apply Cover.cons | apply Take.there)
    case hc1 => intro ρ' hρ hR; exact value_ok hO.vars l hl0 hR.1
    rintro _ _ ⟨rfl, rfl⟩
    refine g_nil ?_
    refine g_qt ?_
    refine g_block ?_
    refine g_seq ?_
    refine g_region ?_
    refine g_pure (p_eql rfl rfl) rfl ?_
    refine g_pure (p_assign rfl) rfl ?_
    refine g_nil ?_
    refine g_qt ?_
    rw [setF_cons] at he
    cases hv : lv V1 l with
    | some y =>
      rw [hv] at he
      cases y with
      | false =>
        refine g_ift rfl ?_
        refine g_seq ?_
        refine g_region ?_
        refine g_pure (p_assign rfl) rfl ?_
        refine g_nil ?_
        refine g_qt ?_
        refine g_ret ?_
        refine g_qb_ret ?_
        refine g_qt_ret ?_
        refine g_qb_ret ?_
        refine g_qt_ret ?_
        refine g_qn_ret ?_
        refine g_qb_ret ?_
        refine g_qt_ret ?_
        dsimp only at he
        exact g_post (rs := [.tmp 4]) rfl (.tmp rfl .nil) ⟨by rw [← he]; rfl, by rw [← he]⟩ (by repeat' (first | exact Cover.nil | exact Take.here | apply Cover.cons | apply Take.there))
      | true =>
        refine g_iff rfl ?_
        refine g_seq ?_
        refine g_region ?_
        refine g_pure (p_eql rfl rfl) rfl ?_
        refine g_pure (p_assign rfl) rfl ?_
        refine g_nil ?_
        refine g_qt ?_
        refine g_ift rfl ?_
        refine g_exit ?_
        refine g_qb_other rfl ?_
        refine g_qt_exit ?_
        refine g_qb_exit ?_
        refine g_qt ?_
        refine g_region ?_
        first | refine g_pure (p_addi rfl rfl (by omega)) rfl ?_ | refine g_pure (p_add rfl rfl) rfl ?_
        refine g_pure (p_move rfl) rfl ?_
        refine g_nil ?_
        refine g_qn ?_
        exact g_next (k + 1, V1, T1) (by repeat (first | exact trivial | refine ⟨by rfl, ?_⟩)) (by repeat' (first | exact Cover.nil | exact Take.here | apply Cover.cons | apply Take.there)) ⟨by dsimp only; omega, hT1, he⟩ (by dsimp only; omega)
    | none =>
      rw [hv] at he
      have hc := cnt_put hl0 hv
      refine g_iff rfl ?_
      refine g_seq ?_
      refine g_region ?_
      refine g_pure (p_eql rfl rfl) rfl ?_
      refine g_pure (p_assign rfl) rfl ?_
      refine g_nil ?_
      refine g_qt ?_
      refine g_iff rfl ?_
      refine g_open .here ?_
      rintro _ ⟨va, vc, ta, tc, xa, xc, rfl⟩
      refine g_skip ?_
      refine g_qb ?_
      refine g_qt ?_
      refine g_seq ?_
      refine g_region ?_
      refine g_pure (p_move rfl) rfl ?_
      refine g_pure (p_move rfl) rfl ?_
      refine g_pure (p_nilCheck rfl) rfl ?_
      refine g_pure (p_fieldAddr rfl) rfl ?_
      refine g_pure (p_load (by rfl) rfl (by first | (apply Has.own; (repeat' (first | exact Take.here | apply Take.there)); done) | exact Has.ro (by assumption)) (by first | rfl | assumption)) rfl ?_
      refine g_pure (p_move rfl) rfl ?_
      refine g_eff (e_bs (xs := [.tmp 27]) rfl rfl rfl (by rfl) (by rfl) rfl (by rfl)) rfl (fun _ _ => ?_)
      rintro ⟨b28, rfl, rfl⟩
      refine g_eff (e_appendO (by rfl) (by rfl) rfl rfl (by first | (apply Has.own; (repeat' (first | exact Take.here | apply Take.there)); done) | exact Has.ro (by assumption)) (by rfl) (by rfl) (by repeat' (first | exact Take.here | apply Take.there)) (by omega) (by first | omega | (dsimp only; omega) | (simp <;> omega)) (by omega)) rfl (fun _ _ => ?_)
      rintro ⟨a29, c29, rfl, rfl⟩
      refine g_pure (p_nilCheck rfl) rfl ?_
      refine g_pure (p_fieldAddr rfl) rfl ?_
      first | refine g_eff0 (e_storeO rfl rfl (by rfl) (by rfl) (by rfl) (by repeat' (first | exact Take.here | apply Take.there)) (by rfl)) (fun _ _ => ?_) | refine g_eff0 (e_store1 (by rfl) rfl rfl rfl (by repeat' (first | exact Take.here | apply Take.there)) (by first | decide | (simp <;> omega) | omega)) (fun _ _ => ?_)
      rintro rfl
      refine g_nil ?_
      refine g_qt ?_
      refine g_seq ?_
      refine g_seq ?_
      refine g_region ?_
      refine g_pure (p_move rfl) rfl ?_
      refine g_pure (p_gtr rfl rfl) rfl ?_
      refine g_nil ?_
      refine g_qt ?_
      refine g_own (e := 3) (size := 1) (a1 := va) (k := p.n + 1) (.there (.there (.there .here))) (fun _ h _ _ => absurd h (by omega)) ?_
      rintro gv curv rfl v1 v2 v3 v4 v5
      refine g_join (fun _ : Unit => [(0, .pointer (some ⟨s, 0, none⟩)), (6, .int .i64 l), (9, .slice a ls.length c), (10, .int .i64 ls.length), (11, .int .i64 k)])
        (fun _ => [Blk s (.cells [.int .i64 p.n, .slice p.ca p.m p.cc, .slice (some ⟨gv, 0, none⟩) (p.n + 1) vc, .slice a29 (T1.length + 1) c29, .slice p.ua (2 * p.n + 2) p.uc, .slice xa p.m xc, .int .i64 ((trues F V1).count 0 : Nat), .int .i64 d].toArray 57 (0, 0)),
          OwnSl 3 1 (some ⟨gv, 0, none⟩) (p.n + 1) vc (vcells p.n (put V1 l)), OwnSl 3 1 a29 (T1.length + 1) c29 (T1.map encI ++ [encI l]), OwnSl 3 1 xa p.m xc ((trues F V1).map encN)]) (fun _ => True) ?_ ?_
      · refine g_ifd rfl (fun y => ?_) (fun y => ?_)
        · refine g_region ?_
          refine g_pure (p_move rfl) rfl ?_
          refine g_pure (p_nilCheck rfl) rfl ?_
          refine g_pure (p_fieldAddr rfl) rfl ?_
          refine g_pure (p_load (by rfl) rfl (by first | (apply Has.own; (repeat' (first | exact Take.here | apply Take.there)); done) | exact Has.ro (by assumption)) (by first | rfl | assumption)) rfl ?_
          refine g_pure (p_move rfl) rfl ?_
          refine g_pure (p_indexAddr rfl rfl (by omega) (fun _ => rfl)) rfl ?_
          refine g_eff0 (e_store1 (by rfl) rfl rfl rfl (by repeat' (first | exact Take.here | apply Take.there)) (by simp; omega)) (fun _ _ => ?_)
          rintro rfl
          refine g_nil ?_
          refine g_qn ?_
          have ho : 0 + l.toNat * 1 = l.natAbs := by omega
          refine g_fold (k := p.n + 1) (cap := vc) (size := 1) (xs := vcells p.n (put V1 l)) .here v1 v2 (by simp; omega) (set_take v4 (by rw [← vcells_put hl0, if_pos y]; show List.set _ (0 + l.toNat * 1) _ = _; rw [ho])) ?_
          exact g_joined () (by repeat (first | exact trivial | refine ⟨by rfl, ?_⟩)) (by repeat' (first | exact Cover.nil | exact Take.here | apply Cover.cons | apply Take.there)) trivial
        · refine g_region ?_
          refine g_pure (p_move rfl) rfl ?_
          refine g_pure (p_nilCheck rfl) rfl ?_
          refine g_pure (p_fieldAddr rfl) rfl ?_
          refine g_pure (p_load (by rfl) rfl (by first | (apply Has.own; (repeat' (first | exact Take.here | apply Take.there)); done) | exact Has.ro (by assumption)) (by first | rfl | assumption)) rfl ?_
          refine g_pure (p_move rfl) rfl ?_
          first | refine g_pure (p_negi rfl (by omega)) rfl ?_ | refine g_pure (p_neg rfl) rfl ?_
          refine g_pure (p_indexAddr rfl rfl (by omega) (fun _ => rfl)) rfl ?_
          refine g_eff0 (e_store1 (by rfl) rfl rfl rfl (by repeat' (first | exact Take.here | apply Take.there)) (by simp; omega)) (fun _ _ => ?_)
          rintro rfl
          refine g_nil ?_
          refine g_qn ?_
          have ho : 0 + (-l).toNat * 1 = l.natAbs := by omega
          refine g_fold (k := p.n + 1) (cap := vc) (size := 1) (xs := vcells p.n (put V1 l)) .here v1 v2 (by simp; omega) (set_take v4 (by rw [← vcells_put hl0, if_neg y]; show List.set _ (0 + (-l).toNat * 1) _ = _; rw [ho])) ?_
          exact g_joined () (by repeat (first | exact trivial | refine ⟨by rfl, ?_⟩)) (by repeat' (first | exact Cover.nil | exact Take.here | apply Cover.cons | apply Take.there)) trivial
      rintro - -
      obtain ⟨ai, ci, w1, _, bi, oi, ki, Ti, fi, w2⟩ := u3 l hl0
      refine g_qt ?_
      refine g_seq ?_
      refine m_begin0 (.fl 0 0 (.fl 1 0 (.fl 2 0 (.fl 3 1 (.fl 4 0 (.fl 9 0 (.ef 5 (.fl 6 0 (.fl 7 1 (.fl 8 0 .done)))))))))) (by kernel_rfl) (by kernel_rfl) ?_
      refine m_float0 rfl (fun _ _ => p_move rfl) rfl ?_
      refine m_float0 rfl (fun _ _ => p_nilCheck rfl) rfl ?_
      refine m_float0 rfl (fun _ _ => p_fieldAddr rfl) rfl ?_
      refine m_float rfl (p_load (by rfl) rfl (by first | (apply Has.own; (repeat' (first | exact Take.here | apply Take.there)); done) | exact Has.ro (by assumption)) (by first | rfl | assumption)) rfl ?_
      refine m_float0 rfl (fun _ _ => p_move rfl) rfl ?_
      refine m_float0 rfl (fun _ _ => p_move rfl) rfl ?_
      refine m_call (Hin := []) (Hr := ?hr2) (R := ?rr2) rfl wantedN rfl rfl rfl ?hin2 ?hc2 ?hk2
      case hin2 => repeat' (first | exact Cover.nil | exact Take.here | apply Cover.cons | apply Take.there)
      case hc2 => intro ρ' hρ hR; exact index_ok l (by omega)
      rintro _ _ ⟨rfl, rfl⟩
      refine ⟨.some (by repeat' (first | exact Cover.nil | exact Take.here | apply Cover.cons | apply Take.there)), ?_⟩
      refine m_float0 rfl (fun _ _ => p_indexAddr rfl rfl (by unfold uix; split <;> omega) (fun _ => u1)) rfl ?_
      refine m_float rfl (p_load (by rfl) rfl (Has.ro u2) w1) rfl ?_
      refine m_float0 rfl (fun _ _ => p_len (by rfl) rfl) rfl ?_
      refine m_nil ?_
      refine g_qt ?_
      refine g_block ?_
      have hrl := hO.rows (uix l)
      have htp := trues_put hO.lits h0 hv
      obtain ⟨us, hus⟩ : ∃ us, us = useRow F (uix l) := ⟨_, rfl⟩
      rw [← hus] at htp hrl w2 ⊢
      refine g_loop (fun j : Nat => [(0, .pointer (some ⟨s, 0, none⟩)), (9, .slice a ls.length c), (10, .int .i64 ls.length), (11, .int .i64 k), (54, .slice ai us.length ci), (55, .int .i64 us.length), (56, .int .i64 j)])
        (fun j => [Blk s (.cells [.int .i64 p.n, .slice p.ca p.m p.cc, .slice (some ⟨gv, 0, none⟩) (p.n + 1) vc, .slice a29 (T1.length + 1) c29, .slice p.ua (2 * p.n + 2) p.uc, .slice xa p.m xc, .int .i64 ((bump (trues F V1) (us.take j)).count 0 : Nat), .int .i64 d].toArray 57 (0, 0)),
          OwnSl 3 1 (some ⟨gv, 0, none⟩) (p.n + 1) vc (vcells p.n (put V1 l)), OwnSl 3 1 a29 (T1.length + 1) c29 (T1.map encI ++ [encI l]), OwnSl 3 1 xa p.m xc ((bump (trues F V1) (us.take j)).map encN)]) (fun j => j ≤ us.length) (fun j => us.length - j) 0 (Nat.zero_le _) (by repeat (first | exact trivial | refine ⟨by rfl, ?_⟩)) (by repeat' (first | exact Cover.nil | exact Take.here | apply Cover.cons | apply Take.there)) ?_
      intro j hj
      refine g_seq ?_
      refine g_region ?_
      refine g_pure (p_lss rfl rfl) rfl ?_
      refine g_nil ?_
      refine g_qt ?_
      refine g_seq ?_
      refine g_ifd rfl (fun r => ?_) (fun r => ?_)
      · have hjl : j < us.length := by omega
        obtain ⟨hi, -⟩ := useRow_lt (F := F) (k := uix l) (i := us[j]) (by rw [← hus]; exact List.getElem_mem hjl)
        obtain ⟨w3, w4, w5⟩ := w2 (by omega)
        have x2 : ki[oi + (j : Int).toNat * 1]? = some (encN us[j]) := flat2 w5 (i := j) (by simp [List.getElem?_eq_getElem hjl]) (by simp)
        have etk : bump (trues F V1) (us.take (j + 1)) = bump1 (bump (trues F V1) (us.take j)) us[j] := by
          rw [List.take_add_one, List.getElem?_eq_getElem hjl, Option.toList_some, bump_snoc]
        have hXl : (bump (trues F V1) (us.take j)).length = F.length := by rw [bump_len, trues_len]
        have hXb : (bump (trues F V1) (us.take j)).getD us[j] 0 ≤ F[us[j]].length := by
          have h1 := bump_get (us.take j) (trues F V1) us[j] (by rw [trues_len]; exact hi)
          have h2 := bump_get us (trues F V1) us[j] (by rw [trues_len]; exact hi)
          have h3 := trues_le F (put V1 l) us[j] hi
          rw [← htp, h2] at h3
          have h4 : (us.take j).count us[j] ≤ us.count us[j] := (List.take_sublist j us).count_le _
          omega
        have hXm := hO.lens F[us[j]] (List.getElem_mem hi)
        have hcl : (bump (trues F V1) (us.take j)).count 0 ≤ 1000000 := Nat.le_trans List.count_le_length (by rw [hXl]; exact hO.len)
        have hb1 := bump1_count (X := bump (trues F V1) (us.take j)) (i := us[j]) (by rw [hXl]; exact hi)
        rw [← etk] at hb1
        generalize hX : bump (trues F V1) (us.take j) = X at *
        generalize hX' : bump (trues F V1) (us.take (j + 1)) = X' at *
        refine g_own (.there (.there (.there .here))) (fun _ h _ _ => absurd h (by omega)) ?_
        rintro gx curx rfl q1 q2 q3 q4 q5
        have hget : X[us[j]]? = some (X.getD us[j] 0) := by rw [List.getD_eq_getElem?_getD, List.getElem?_eq_getElem (by rw [hXl]; exact hi)]; rfl
        have xx : curx[0 + ((us[j] : Nat) : Int).toNat * 1]? = some (encN (X.getD us[j] 0)) := own_at (k := us[j]) q4 (by simp) (by rw [List.getElem?_map, hget]; rfl)
        generalize hx0 : X.getD us[j] 0 = x0 at *
        refine g_skip ?_
        refine g_qt ?_
        refine g_seq ?_
        refine g_block ?_
        refine g_seq ?_
        refine g_region ?_
        refine g_pure (p_indexAddr rfl rfl (by omega) (fun _ => w3)) rfl ?_
        refine g_pure (p_load (by rfl) rfl (Has.ro w4) x2) rfl ?_
        refine g_pure (p_assign rfl) rfl ?_
        refine g_nil ?_
        refine g_qt ?_
        refine g_seq ?_
        refine g_seq ?_
        refine g_region ?_
        refine g_pure (p_move rfl) rfl ?_
        refine g_pure (p_nilCheck rfl) rfl ?_
        refine g_pure (p_fieldAddr rfl) rfl ?_
        refine g_pure (p_load (by rfl) rfl (by first | (apply Has.own; (repeat' (first | exact Take.here | apply Take.there)); done) | exact Has.ro (by assumption)) (by first | rfl | assumption)) rfl ?_
        refine g_pure (p_move rfl) rfl ?_
        refine g_pure (p_indexAddr rfl rfl (by omega) (fun _ => rfl)) rfl ?_
        refine g_pure (p_load (by rfl) rfl (Has.own (by repeat' (first | exact Take.here | apply Take.there))) xx) rfl ?_
        refine g_pure (p_eql rfl rfl) rfl ?_
        refine g_nil ?_
        refine g_qt ?_
        have hfin : (curx.set (0 + ((us[j] : Nat) : Int).toNat * 1) (.int .i64 ((x0 : Int) + 1))).take (p.m * 1) = X'.map encN := by
          refine set_take q4 ?_
          rw [etk]
          unfold bump1
          rw [hx0, List.map_set]
          congr 1
          simp
        refine g_ifd rfl (fun r0 => ?_) (fun r0 => ?_)
        · refine g_region ?_
          refine g_pure (p_move rfl) rfl ?_
          refine g_pure (p_nilCheck rfl) rfl ?_
          refine g_pure (p_fieldAddr rfl) rfl ?_
          refine g_pure (p_load (by rfl) rfl (by first | (apply Has.own; (repeat' (first | exact Take.here | apply Take.there)); done) | exact Has.ro (by assumption)) (by first | rfl | assumption)) rfl ?_
          first | refine g_pure (p_subi rfl rfl (by omega)) rfl ?_ | refine g_pure (p_sub rfl rfl) rfl ?_
          refine g_pure (p_nilCheck rfl) rfl ?_
          refine g_pure (p_fieldAddr rfl) rfl ?_
          first | refine g_eff0 (e_storeO rfl rfl (by rfl) (by rfl) (by rfl) (by repeat' (first | exact Take.here | apply Take.there)) (by rfl)) (fun _ _ => ?_) | refine g_eff0 (e_store1 (by rfl) rfl rfl rfl (by repeat' (first | exact Take.here | apply Take.there)) (by first | decide | (simp <;> omega) | omega)) (fun _ _ => ?_)
          rintro rfl
          refine g_nil ?_
          refine g_qt ?_
          refine g_region ?_
          refine g_pure (p_move rfl) rfl ?_
          refine g_pure (p_nilCheck rfl) rfl ?_
          refine g_pure (p_fieldAddr rfl) rfl ?_
          refine g_pure (p_load (by rfl) rfl (by first | (apply Has.own; (repeat' (first | exact Take.here | apply Take.there)); done) | exact Has.ro (by assumption)) (by first | rfl | assumption)) rfl ?_
          refine g_pure (p_move rfl) rfl ?_
          refine g_pure (p_indexAddr rfl rfl (by omega) (fun _ => rfl)) rfl ?_
          refine g_pure (p_load (by rfl) rfl (Has.own (by repeat' (first | exact Take.here | apply Take.there))) xx) rfl ?_
          first | refine g_pure (p_addi rfl rfl (by omega)) rfl ?_ | refine g_pure (p_add rfl rfl) rfl ?_
          refine g_pure (p_indexAddr rfl rfl (by omega) (fun _ => rfl)) rfl ?_
          refine g_eff0 (e_store1 (by rfl) rfl rfl rfl (by repeat' (first | exact Take.here | apply Take.there)) (by simp; omega)) (fun _ _ => ?_)
          rintro rfl
          refine g_nil ?_
          refine g_qb ?_
          refine g_qt ?_
          refine g_region ?_
          first | refine g_pure (p_addi rfl rfl (by omega)) rfl ?_ | refine g_pure (p_add rfl rfl) rfl ?_
          refine g_pure (p_move rfl) rfl ?_
          refine g_nil ?_
          refine g_qn ?_
          rw [if_pos (by simpa using r0)] at hb1
          have ec : ((X.count 0 : Nat) : Int) - 1 = ((X'.count 0 : Nat) : Int) := by omega
          rw [ec]
          refine g_fold (k := p.m) (cap := xc) (size := 1) (xs := X'.map encN) .here q1 q2 (by simp; omega) hfin ?_
          subst hX'
          exact g_next (j + 1) (by repeat (first | exact trivial | refine ⟨by rfl, ?_⟩)) (by repeat' (first | exact Cover.nil | exact Take.here | apply Cover.cons | apply Take.there)) (by omega) (by omega)
        · refine g_skip ?_
          refine g_qt ?_
          refine g_region ?_
          refine g_pure (p_move rfl) rfl ?_
          refine g_pure (p_nilCheck rfl) rfl ?_
          refine g_pure (p_fieldAddr rfl) rfl ?_
          refine g_pure (p_load (by rfl) rfl (by first | (apply Has.own; (repeat' (first | exact Take.here | apply Take.there)); done) | exact Has.ro (by assumption)) (by first | rfl | assumption)) rfl ?_
          refine g_pure (p_move rfl) rfl ?_
          refine g_pure (p_indexAddr rfl rfl (by omega) (fun _ => rfl)) rfl ?_
          refine g_pure (p_load (by rfl) rfl (Has.own (by repeat' (first | exact Take.here | apply Take.there))) xx) rfl ?_
          first | refine g_pure (p_addi rfl rfl (by omega)) rfl ?_ | refine g_pure (p_add rfl rfl) rfl ?_
          refine g_pure (p_indexAddr rfl rfl (by omega) (fun _ => rfl)) rfl ?_
          refine g_eff0 (e_store1 (by rfl) rfl rfl rfl (by repeat' (first | exact Take.here | apply Take.there)) (by simp; omega)) (fun _ _ => ?_)
          rintro rfl
          refine g_nil ?_
          refine g_qb ?_
          refine g_qt ?_
          refine g_region ?_
          first | refine g_pure (p_addi rfl rfl (by omega)) rfl ?_ | refine g_pure (p_add rfl rfl) rfl ?_
          refine g_pure (p_move rfl) rfl ?_
          refine g_nil ?_
          refine g_qn ?_
          rw [if_neg (by simpa using r0)] at hb1
          have ec : X.count 0 = X'.count 0 := by omega
          rw [ec]
          refine g_fold (k := p.m) (cap := xc) (size := 1) (xs := X'.map encN) .here q1 q2 (by simp; omega) hfin ?_
          subst hX'
          exact g_next (j + 1) (by repeat (first | exact trivial | refine ⟨by rfl, ?_⟩)) (by repeat' (first | exact Cover.nil | exact Take.here | apply Cover.cons | apply Take.there)) (by omega) (by omega)
      · have hje : j = us.length := by omega
        subst hje
        rw [List.take_length, htp]
        refine g_exit ?_
        refine g_qt_exit ?_
        refine g_qn_exit ?_
        refine g_qb_exit ?_
        refine g_qb ?_
        refine g_qt ?_
        refine g_region ?_
        first | refine g_pure (p_addi rfl rfl (by omega)) rfl ?_ | refine g_pure (p_add rfl rfl) rfl ?_
        refine g_pure (p_move rfl) rfl ?_
        refine g_nil ?_
        refine g_qn ?_
        refine sv_close (V := put V1 l) (T := T1 ++ [l]) (X := trues F (put V1 l)) (d := d) (by repeat' (first | exact Cover.nil | exact Take.here | apply Cover.cons | apply Take.there)) (by simp) rfl rfl rfl (by simp) rfl ?_
        exact g_next (k + 1, put V1 l, T1 ++ [l]) (by repeat (first | exact trivial | refine ⟨by rfl, ?_⟩)) (by repeat' (first | exact Cover.nil | exact Take.here | apply Cover.cons | apply Take.there)) ⟨by dsimp only; omega, by simp; omega, he⟩ (by dsimp only; omega)
  · have hke : k = ls.length := by omega
    rw [hke, List.drop_length] at he
    have he' : setF V T ls = (true, V1, T1) := he.symm
    refine g_exit ?_
    refine g_qt_exit ?_
    refine g_qn_exit ?_
    refine g_qb_exit ?_
    refine g_qt ?_
    refine g_seq ?_
    refine g_region ?_
    refine g_pure (p_assign rfl) rfl ?_
    refine g_nil ?_
    refine g_qt ?_
    refine g_ret ?_
    exact g_post (rs := [.tmp 4]) rfl (.tmp rfl .nil) ⟨by rw [he']; rfl, by rw [he']⟩ (by repeat' (first | exact Cover.nil | exact Take.here | apply Cover.cons | apply Take.there))
end Go.Proofs.Ytbpgblbhikeglaa
