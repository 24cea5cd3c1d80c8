/- Chapter 37, the document: Unit. Conditions: none. -/
import Derived.Test.YtbpgblbhikeglaaU3
namespace Go.Z.Sat
set_option linter.unusedVariables false
set_option linter.unusedSimpArgs false
set_option linter.unusedSectionVars false
open Go Go.Z Go.Proofs.Ytbpgblbhikeglaa
theorem put_same {a : As} {l : Int} (h : lv a l = some true) : put a l = a := by
  funext v
  unfold put
  by_cases e : v = l.natAbs
  · rw [if_pos e, e]
    rw [lv_abs] at h
    split at h
    · rename_i h0; rw [h, decide_eq_true h0]
    · rename_i h0
      cases hv : a l.natAbs with
      | none => rw [hv] at h; cases h
      | some x => rw [hv] at h; cases x <;> simp at h; rw [decide_eq_false h0]
  · rw [if_neg e]
theorem dcode_cases (o : Option Bool) : (o = none ∧ dcode o = 0) ∨ (o = some true ∧ dcode o = 1) ∨ (o = some false ∧ dcode o = -1) := by
  cases o with
  | none => exact .inl ⟨rfl, rfl⟩
  | some x => cases x; exact .inr (.inr ⟨rfl, rfl⟩); exact .inr (.inl ⟨rfl, rfl⟩)
end Go.Z.Sat
namespace Go.Proofs.Ytbpgblbhikeglaa
open Go Go.Z Go.Z.Sat

theorem dunit_ok {ρ : Nat → Obj → Prop} (n : Int) (hn : I64 n) (ca : Option Addr) (cc : Nat) (F : Fm) (hF : FmR ρ ca F) (hO : check1 n F = 0 → Ok n.toNat F) (la : Option Addr) (lc : Nat) (ls : List Int) (hls : RSl ρ 1 la ls.length (ls.map encI)) (hlen : ls.length ≤ 9223372036854775806) (hI : ∀ l ∈ ls, I64 l) :
    Con Try.prog ρ 14 #[.agg #[.int .i64 n, .slice ca F.length cc], .slice la ls.length lc] [] (UnP n F ls) := by
  refine con_intro Try.func14 Try.call14 rfl Try.ntmps14 rfl (L := [(0, _), (1, _)]) rfl fun w hh => ?_
  refine g_seq ?_
  refine g_region ?_
  refine g_eff (e_box rfl (by rfl)) rfl (fun _ _ => ?_)
  rintro ⟨b2, rfl, rfl⟩
  refine g_pure (p_assign rfl) rfl ?_
  refine g_pure (p_assign rfl) rfl ?_
  refine g_pure (p_assign rfl) rfl ?_
  refine g_nil ?_
  refine g_qt ?_
  refine g_seq ?_
  refine g_region ?_
  first | refine g_pure (p_loadO (by rfl) rfl (by first | (apply Has.own; (repeat' (first | exact Take.here | apply Take.there)); done) | exact Has.ro (by assumption)) (by rfl)) rfl ?_ | refine g_pure (p_loadN (by rfl) rfl (by first | (apply Has.own; (repeat' (first | exact Take.here | apply Take.there)); done) | exact Has.ro (by assumption)) (by first | rfl | assumption)) rfl ?_
  refine g_call (Hin := []) (Hr := ?hr1) (R := ?rr1) rfl rfl rfl ?hin1 ?hc1 ?hk1
  case hin1 => repeat' (first | exact Cover.nil | exact Take.here | apply Cover.cons | apply Take.there)
  case hc1 => intro ρ' hρ hR; exact rcheck_ok n hn ca cc F (hF.mono hρ)
  rintro _ _ ⟨rfl, rfl⟩
  refine g_pure (p_assign rfl) rfl ?_
  refine g_nil ?_
  refine g_qt ?_
  refine g_seq ?_
  refine g_seq ?_
  refine g_region ?_
  refine g_pure (p_move rfl) rfl ?_
  refine g_pure (p_neq rfl rfl) rfl ?_
  refine g_nil ?_
  refine g_qt ?_
  refine g_ifnd rfl (fun c => ?_) (fun c => ?_)
  · refine g_seq ?_
    refine g_region ?_
    refine g_pure (p_move rfl) rfl ?_
    refine g_pure (p_assign rfl) rfl ?_
    refine g_pure (p_assign rfl) rfl ?_
    refine g_pure (p_assign rfl) rfl ?_
    refine g_nil ?_
    refine g_qt ?_
    refine g_ret ?_
    refine g_qt_ret ?_
    refine g_ownnil (e := 3) (size := 1) ?_
    exact g_post (rs := [.tmp 4, .tmp 5, .tmp 6]) rfl (.tmp rfl (.tmp rfl (.tmp rfl .nil))) ⟨[], none, 0, false, check1 n F, .inl ⟨c, rfl, rfl, rfl⟩, rfl, rfl⟩ (by repeat' (first | exact Cover.nil | exact Take.here | apply Cover.cons | apply Take.there))
  · have hO' := hO c
    have hnn := check1_nonneg c
    obtain ⟨m, rfl⟩ : ∃ m : Nat, n = m := ⟨n.toNat, by omega⟩
    rw [Int.toNat_natCast] at hO'
    have hvars := hO'.vars
    obtain ⟨_, bl, ol, kl, Tl, fl, hl⟩ := hls
    refine g_skip ?_
    refine g_qt ?_
    refine g_seq ?_
    refine g_seq ?_
    refine g_region ?_
    refine g_pure (p_assign rfl) rfl ?_
    refine g_nil ?_
    refine g_qt ?_
    refine g_block ?_
    refine g_loop (fun j : Nat => [(1, .slice la ls.length lc), (2, .pointer (some ⟨b2, 0, none⟩)), (8, .int .i64 j)])
      (fun _ => [Blk b2 (.cells [.int .i64 m, .slice ca F.length cc].toArray 24 (0, 0))]) (fun j => j ≤ ls.length ∧ (ls.take j).all (okB m) = true) (fun j => ls.length - j) 0 ⟨Nat.zero_le _, rfl⟩ (by repeat (first | exact trivial | refine ⟨by rfl, ?_⟩)) (by repeat' (first | exact Cover.nil | exact Take.here | apply Cover.cons | apply Take.there)) ?_
    rintro j ⟨hj, hall⟩
    refine g_seq ?_
    refine g_seq ?_
    refine g_region ?_
    refine g_pure (p_move rfl) rfl ?_
    refine g_pure (p_move rfl) rfl ?_
    refine g_pure (p_len (by rfl) rfl) rfl ?_
    refine g_pure (p_lss rfl rfl) rfl ?_
    refine g_nil ?_
    refine g_qt ?_
    refine g_ifd rfl (fun q => ?_) (fun q => ?_)
    · have hjl : j < ls.length := by omega
      obtain ⟨l1, l2, l3⟩ := hl (by omega)
      have x1 : kl[ol + (j : Int).toNat * 1]? = some (encI ls[j]) := flat2 l3 (i := j) (mapI _ hjl) (by simp)
      have hj64 := hI _ (List.getElem_mem hjl)
      unfold I64 at hj64
      have hfail : okB m ls[j] = false → ls.all (okB m) = false := fun h => by
        rw [← Bool.not_eq_true, List.all_eq_true]
        intro hh
        rw [hh _ (List.getElem_mem hjl)] at h; cases h
      have hgo : okB m ls[j] = true → (ls.take (j + 1)).all (okB m) = true := take_all _ _ _ hjl hall
      have hfin : okB m ls[j] = false → UnS m F ls [] false 14 := fun h => .inr (.inl ⟨c, hfail h, rfl, rfl, rfl⟩)
      generalize hlk : ls[j] = l at *
      refine g_skip ?_
      refine g_qt ?_
      refine g_seq ?_
      refine g_block ?_
      refine g_seq ?_
      refine m_begin0 (.fl 0 0 (.fl 1 0 (.fl 2 0 (.fl 3 1 (.fl 4 0 (.fl 5 0 (.fl 6 0 (.fl 7 0 (.fl 8 0 (.fl 9 1 (.fl 10 0 (.fl 11 1 (.fl 12 0 (.fl 13 0 (.fl 14 0 (.fl 15 0 (.fl 16 0 (.fl 17 0 (.fl 18 1 (.fl 19 0 (.fl 20 1 (.fl 21 0 (.fl 22 0 (.fl 23 0 .done)))))))))))))))))))))))) (by kernel_rfl) (by kernel_rfl) ?_
      refine m_float0 rfl (fun _ _ => p_move rfl) rfl ?_
      refine m_float0 rfl (fun _ _ => p_move rfl) rfl ?_
      refine m_float0 rfl (fun _ _ => p_indexAddr rfl rfl (by omega) (fun _ => l1)) rfl ?_
      refine m_float rfl (p_load (by rfl) rfl (Has.ro l2) x1) rfl ?_
      refine m_float0 rfl (fun _ _ => p_eql rfl rfl) rfl ?_
      refine m_float0 rfl (fun _ _ => p_move rfl) rfl ?_
      refine m_splitd 5 rfl rfl (fun y1 => ?_) (fun y1 => ?_)
      · refine m_no0 rfl rfl rfl rfl rfl ?_
        refine m_no0 rfl rfl rfl rfl rfl ?_
        refine m_no0 rfl rfl rfl rfl rfl ?_
        refine m_no rfl rfl rfl rfl rfl ?_
        refine m_no0 rfl rfl rfl rfl rfl ?_
        refine m_no rfl rfl rfl rfl rfl ?_
        refine m_no0 rfl rfl rfl rfl rfl ?_
        first | refine m_float0 rfl (fun _ _ => p_pickt rfl rfl) rfl ?_ | refine m_float0 rfl (fun _ _ => p_pickf rfl rfl) rfl ?_
        refine m_float0 rfl (fun _ _ => p_move rfl) rfl ?_
        refine m_no0 rfl rfl rfl rfl rfl ?_
        refine m_no0 rfl rfl rfl rfl rfl ?_
        refine m_no0 rfl rfl rfl rfl rfl ?_
        refine m_no rfl rfl rfl rfl rfl ?_
        refine m_no0 rfl rfl rfl rfl rfl ?_
        refine m_no rfl rfl rfl rfl rfl ?_
        refine m_no0 rfl rfl rfl rfl rfl ?_
        refine m_no0 rfl rfl rfl rfl rfl ?_
        first | refine m_float0 rfl (fun _ _ => p_pickt rfl rfl) rfl ?_ | refine m_float0 rfl (fun _ _ => p_pickf rfl rfl) rfl ?_
        refine m_nil ?_
        refine g_qt ?_
        refine g_ift rfl ?_
        refine g_seq ?_
        refine g_region ?_
        refine g_pure (p_assign rfl) rfl ?_
        refine g_pure (p_assign rfl) rfl ?_
        refine g_pure (p_assign rfl) rfl ?_
        refine g_nil ?_
        refine g_qt ?_
        refine g_ret ?_
        refine g_qb_ret ?_
        refine g_qt_ret ?_
        refine g_qn_ret ?_
        refine g_qb_ret ?_
        refine g_qt_ret ?_
        refine g_ownnil (e := 3) (size := 1) ?_
        exact g_post (rs := [.tmp 4, .tmp 5, .tmp 6]) rfl (.tmp rfl (.tmp rfl (.tmp rfl .nil))) ⟨[], none, 0, false, 14, hfin (by simp [okB, y1]), rfl, rfl⟩ (by repeat' (first | exact Cover.nil | exact Take.here | apply Cover.cons | apply Take.there))
      · refine m_yes0 rfl rfl rfl (fun _ _ => p_move rfl) rfl ?_
        refine m_yes0 rfl rfl rfl (fun _ _ => p_move rfl) rfl ?_
        refine m_yes0 rfl rfl rfl (fun _ _ => p_indexAddr rfl rfl (by omega) (fun _ => l1)) rfl ?_
        refine m_yes rfl rfl rfl (p_load (by rfl) rfl (Has.ro l2) x1) rfl ?_
        refine m_yes0 rfl rfl rfl (fun _ _ => p_fieldAddr rfl) rfl ?_
        refine m_yes rfl rfl rfl (p_load (by rfl) rfl (by first | (apply Has.own; (repeat' (first | exact Take.here | apply Take.there)); done) | exact Has.ro (by assumption)) (by first | rfl | assumption)) rfl ?_
        refine m_yes0 rfl rfl rfl (fun _ _ => p_gtr rfl rfl) rfl ?_
        first | refine m_float0 rfl (fun _ _ => p_pickt rfl rfl) rfl ?_ | refine m_float0 rfl (fun _ _ => p_pickf rfl rfl) rfl ?_
        refine m_float0 rfl (fun _ _ => p_move rfl) rfl ?_
        refine m_splitd 14 rfl rfl (fun y2 => ?_) (fun y2 => ?_)
        · refine m_no0 rfl rfl rfl rfl rfl ?_
          refine m_no0 rfl rfl rfl rfl rfl ?_
          refine m_no0 rfl rfl rfl rfl rfl ?_
          refine m_no rfl rfl rfl rfl rfl ?_
          refine m_no0 rfl rfl rfl rfl rfl ?_
          refine m_no rfl rfl rfl rfl rfl ?_
          refine m_no0 rfl rfl rfl rfl rfl ?_
          refine m_no0 rfl rfl rfl rfl rfl ?_
          first | refine m_float0 rfl (fun _ _ => p_pickt rfl rfl) rfl ?_ | refine m_float0 rfl (fun _ _ => p_pickf rfl rfl) rfl ?_
          refine m_nil ?_
          refine g_qt ?_
          refine g_ift rfl ?_
          refine g_seq ?_
          refine g_region ?_
          refine g_pure (p_assign rfl) rfl ?_
          refine g_pure (p_assign rfl) rfl ?_
          refine g_pure (p_assign rfl) rfl ?_
          refine g_nil ?_
          refine g_qt ?_
          refine g_ret ?_
          refine g_qb_ret ?_
          refine g_qt_ret ?_
          refine g_qn_ret ?_
          refine g_qb_ret ?_
          refine g_qt_ret ?_
          refine g_ownnil (e := 3) (size := 1) ?_
          exact g_post (rs := [.tmp 4, .tmp 5, .tmp 6]) rfl (.tmp rfl (.tmp rfl (.tmp rfl .nil))) ⟨[], none, 0, false, 14, hfin (by simp [okB, y2]), rfl, rfl⟩ (by repeat' (first | exact Cover.nil | exact Take.here | apply Cover.cons | apply Take.there))
        · refine m_yes0 rfl rfl rfl (fun _ _ => p_move rfl) rfl ?_
          refine m_yes0 rfl rfl rfl (fun _ _ => p_move rfl) rfl ?_
          refine m_yes0 rfl rfl rfl (fun _ _ => p_indexAddr rfl rfl (by omega) (fun _ => l1)) rfl ?_
          refine m_yes rfl rfl rfl (p_load (by rfl) rfl (Has.ro l2) x1) rfl ?_
          refine m_yes0 rfl rfl rfl (fun _ _ => p_fieldAddr rfl) rfl ?_
          refine m_yes rfl rfl rfl (p_load (by rfl) rfl (by first | (apply Has.own; (repeat' (first | exact Take.here | apply Take.there)); done) | exact Has.ro (by assumption)) (by first | rfl | assumption)) rfl ?_
          first | refine m_yes0 rfl rfl rfl (fun _ _ => p_negi rfl (by omega)) rfl ?_ | refine m_yes0 rfl rfl rfl (fun _ _ => p_neg rfl) rfl ?_
          refine m_yes0 rfl rfl rfl (fun _ _ => p_lss rfl rfl) rfl ?_
          first | refine m_float0 rfl (fun _ _ => p_pickt rfl rfl) rfl ?_ | refine m_float0 rfl (fun _ _ => p_pickf rfl rfl) rfl ?_
          refine m_nil ?_
          refine g_qt ?_
          refine g_ifd rfl (fun y3 => ?_) (fun y3 => ?_)
          · refine g_seq ?_
            refine g_region ?_
            refine g_pure (p_assign rfl) rfl ?_
            refine g_pure (p_assign rfl) rfl ?_
            refine g_pure (p_assign rfl) rfl ?_
            refine g_nil ?_
            refine g_qt ?_
            refine g_ret ?_
            refine g_qb_ret ?_
            refine g_qt_ret ?_
            refine g_qn_ret ?_
            refine g_qb_ret ?_
            refine g_qt_ret ?_
            refine g_ownnil (e := 3) (size := 1) ?_
            exact g_post (rs := [.tmp 4, .tmp 5, .tmp 6]) rfl (.tmp rfl (.tmp rfl (.tmp rfl .nil))) ⟨[], none, 0, false, 14, hfin (by simp [okB, y3]), rfl, rfl⟩ (by repeat' (first | exact Cover.nil | exact Take.here | apply Cover.cons | apply Take.there))
          · refine g_skip ?_
            refine g_qb ?_
            refine g_qt ?_
            refine g_region ?_
            refine g_pure (p_move rfl) rfl ?_
            first | refine g_pure (p_addi rfl rfl (by omega)) rfl ?_ | refine g_pure (p_add rfl rfl) rfl ?_
            refine g_pure (p_assign rfl) rfl ?_
            refine g_nil ?_
            refine g_qn ?_
            exact g_next (j + 1) (by repeat (first | exact trivial | refine ⟨by rfl, ?_⟩)) (by repeat' (first | exact Cover.nil | exact Take.here | apply Cover.cons | apply Take.there)) ⟨by omega, hgo (by simp [okB, y1, y2, y3])⟩ (by omega)
    · have hje : j = ls.length := by omega
      rw [hje, List.take_length] at hall
      have hokl : ∀ l ∈ ls, okL m l := fun l hl => okB_okL (List.all_eq_true.1 hall l hl)
      have e1 : ((m : Int) + 1).toNat = m + 1 := by omega
      refine g_exit ?_
      refine g_qt_exit ?_
      refine g_qn_exit ?_
      refine g_qb_exit ?_
      refine g_qt ?_
      refine g_seq ?_
      refine g_region ?_
      refine g_pure (p_fieldAddr rfl) rfl ?_
      refine g_pure (p_load (by rfl) rfl (by first | (apply Has.own; (repeat' (first | exact Take.here | apply Take.there)); done) | exact Has.ro (by assumption)) (by first | rfl | assumption)) rfl ?_
      first | refine g_pure (p_addi rfl rfl (by omega)) rfl ?_ | refine g_pure (p_add rfl rfl) rfl ?_
      refine g_eff (e_make (by rfl) (by rfl) rfl rfl (by omega) (by first | omega | (dsimp only; omega)) (by omega)) rfl (fun _ _ => ?_)
      rintro ⟨b51, rfl, rfl⟩
      refine g_pure (p_assign rfl) rfl ?_
      refine g_nil ?_
      refine g_qt ?_
      refine g_seq ?_
      refine g_seq ?_
      refine g_region ?_
      refine g_pure (p_assign rfl) rfl ?_
      refine g_nil ?_
      refine g_qt ?_
      refine g_block ?_
      rw [e1]
      refine g_fold (k := m + 1) (cap := m + 1) (size := 1) (g := b51) (xs := dcells m (fun _ => none)) .here (Nat.le_refl _) (by omega) (by simp) (by rw [dcells_none]; exact List.take_of_length_le (by simp)) ?_
      refine g_loop (fun q : Nat × As => [(1, .slice la ls.length lc), (2, .pointer (some ⟨b2, 0, none⟩)), (9, .slice (some ⟨b51, 0, none⟩) (m + 1) (m + 1)), (10, .int .i64 q.1)])
        (fun q => [OwnSl 3 1 (some ⟨b51, 0, none⟩) (m + 1) (m + 1) (dcells m q.2), Blk b2 (.cells [.int .i64 m, .slice ca F.length cc].toArray 24 (0, 0))]) (fun q => q.1 ≤ ls.length ∧ ∃ T, setF q.2 T (ls.drop q.1) = setF (fun _ => none) [] ls) (fun q => ls.length - q.1) (0, fun _ => none) ⟨Nat.zero_le _, [], rfl⟩ (by repeat (first | exact trivial | refine ⟨by rfl, ?_⟩)) (by repeat' (first | exact Cover.nil | exact Take.here | apply Cover.cons | apply Take.there)) ?_
      rintro ⟨j, A⟩ ⟨hj, T, hT⟩
      dsimp only at hj hT ⊢
      refine g_seq ?_
      refine g_seq ?_
      refine g_region ?_
      refine g_pure (p_move rfl) rfl ?_
      refine g_pure (p_move rfl) rfl ?_
      refine g_pure (p_len (by rfl) rfl) rfl ?_
      refine g_pure (p_lss rfl rfl) rfl ?_
      refine g_nil ?_
      refine g_qt ?_
      refine g_ifd rfl (fun r => ?_) (fun r => ?_)
      · have hjl : j < ls.length := by omega
        obtain ⟨l1, l2, l3⟩ := hl (by omega)
        have x1 : kl[ol + (j : Int).toNat * 1]? = some (encI ls[j]) := flat2 l3 (i := j) (mapI _ hjl) (by simp)
        have hll := hokl _ (List.getElem_mem hjl)
        rw [List.drop_eq_getElem_cons hjl, setF_cons] at hT
        generalize hlk : ls[j] = l at *
        obtain ⟨h0, hl1, hl2⟩ := id hll
        refine g_skip ?_
        refine g_qt ?_
        refine g_seq ?_
        refine g_block ?_
        refine g_seq ?_
        refine g_seq ?_
        refine g_region ?_
        refine g_pure (p_move rfl) rfl ?_
        refine g_pure (p_move rfl) rfl ?_
        refine g_pure (p_move rfl) rfl ?_
        refine g_pure (p_indexAddr rfl rfl (by omega) (fun _ => l1)) rfl ?_
        refine g_pure (p_load (by rfl) rfl (Has.ro l2) x1) rfl ?_
        refine g_call (Hin := []) (Hr := ?hr2) (R := ?rr2) rfl rfl rfl ?hin2 ?hc2 ?hk2
        case hin2 => repeat' (first | exact Cover.nil | exact Take.here | apply Cover.cons | apply Take.there)
        case hc2 => intro ρ' hρ hR; exact dvalue_ok hvars l hll (.of_own hR.1)
        rintro _ _ ⟨rfl, rfl⟩
        refine g_pure (p_lss rfl rfl) rfl ?_
        refine g_nil ?_
        refine g_qt ?_
        refine g_ifd rfl (fun s => ?_) (fun s => ?_)
        · have hv : lv A l = some false := by
            rcases dcode_cases (lv A l) with ⟨h1, h2⟩ | ⟨h1, h2⟩ | ⟨h1, h2⟩
            · rw [h2] at s; omega
            · rw [h2] at s; omega
            · exact h1
          rw [hv] at hT
          dsimp only at hT
          refine g_seq ?_
          refine g_region ?_
          refine g_pure (p_assign rfl) rfl ?_
          refine g_pure (p_assign rfl) rfl ?_
          refine g_pure (p_assign rfl) rfl ?_
          refine g_nil ?_
          refine g_qt ?_
          refine g_ret ?_
          refine g_qt_ret ?_
          refine g_qb_ret ?_
          refine g_qt_ret ?_
          refine g_qn_ret ?_
          refine g_qb_ret ?_
          refine g_qt_ret ?_
          refine g_ownnil (e := 3) (size := 1) ?_
          exact g_post (rs := [.tmp 4, .tmp 5, .tmp 6]) rfl (.tmp rfl (.tmp rfl (.tmp rfl .nil))) ⟨[], none, 0, false, 0, .inr (.inr ⟨c, hall, rfl, none, .inl ⟨by rw [← hT], rfl⟩, rfl, rfl⟩), rfl, rfl⟩ (by repeat' (first | exact Cover.nil | exact Take.here | apply Cover.cons | apply Take.there))
        · have hnext : ∃ T, setF (put A l) T (ls.drop (j + 1)) = setF (fun _ => none) [] ls := by
            rcases dcode_cases (lv A l) with ⟨h1, h2⟩ | ⟨h1, h2⟩ | ⟨h1, h2⟩
            · rw [h1] at hT; exact ⟨_, hT⟩
            · rw [h1] at hT; rw [put_same h1]; exact ⟨_, hT⟩
            · rw [h2] at s; omega
          refine g_own (a1 := some ⟨b51, 0, none⟩) (k := m + 1) .here (fun _ h _ _ => absurd h (by omega)) ?_
          rintro gv curv hgv v1 v2 v3 v4 v5
          cases hgv
          refine g_skip ?_
          refine g_qt ?_
          refine g_seq ?_
          refine g_region ?_
          refine g_pure (p_move rfl) rfl ?_
          refine g_pure (p_move rfl) rfl ?_
          refine g_pure (p_indexAddr rfl rfl (by omega) (fun _ => l1)) rfl ?_
          refine g_pure (p_load (by rfl) rfl (Has.ro l2) x1) rfl ?_
          refine g_pure (p_gtr rfl rfl) rfl ?_
          refine g_nil ?_
          refine g_qt ?_
          refine g_ifd rfl (fun p => ?_) (fun p => ?_)
          · refine g_region ?_
            refine g_pure (p_move rfl) rfl ?_
            refine g_pure (p_move rfl) rfl ?_
            refine g_pure (p_move rfl) rfl ?_
            refine g_pure (p_indexAddr rfl rfl (by omega) (fun _ => l1)) rfl ?_
            refine g_pure (p_load (by rfl) rfl (Has.ro l2) x1) rfl ?_
            refine g_pure (p_indexAddr rfl rfl (by omega) (fun _ => rfl)) rfl ?_
            refine g_eff0 (e_store1 (by rfl) rfl rfl rfl (by repeat' (first | exact Take.here | apply Take.there)) (by simp; omega)) (fun _ _ => ?_)
            rintro rfl
            refine g_nil ?_
            refine g_qb ?_
            refine g_qt ?_
            refine g_region ?_
            refine g_pure (p_move rfl) rfl ?_
            first | refine g_pure (p_addi rfl rfl (by omega)) rfl ?_ | refine g_pure (p_add rfl rfl) rfl ?_
            refine g_pure (p_assign rfl) rfl ?_
            refine g_nil ?_
            refine g_qn ?_
            refine g_fold (k := m + 1) (cap := m + 1) (size := 1) (g := b51) (xs := dcells m (put A l)) .here v1 v2 (by simp; omega) (set_take v4 (by rw [← dcells_put hll, if_pos p]; show List.set _ (0 + l.toNat * 1) _ = _; rw [show 0 + l.toNat * 1 = l.natAbs by omega])) ?_
            exact g_next (j + 1, put A l) (by repeat (first | exact trivial | refine ⟨by rfl, ?_⟩)) (by repeat' (first | exact Cover.nil | exact Take.here | apply Cover.cons | apply Take.there)) ⟨by dsimp only; omega, hnext⟩ (by dsimp only; omega)
          · refine g_region ?_
            refine g_pure (p_move rfl) rfl ?_
            refine g_pure (p_move rfl) rfl ?_
            refine g_pure (p_move rfl) rfl ?_
            refine g_pure (p_indexAddr rfl rfl (by omega) (fun _ => l1)) rfl ?_
            refine g_pure (p_load (by rfl) rfl (Has.ro l2) x1) rfl ?_
            first | refine g_pure (p_negi rfl (by omega)) rfl ?_ | refine g_pure (p_neg rfl) rfl ?_
            refine g_pure (p_indexAddr rfl rfl (by omega) (fun _ => rfl)) rfl ?_
            refine g_eff0 (e_store1 (by rfl) rfl rfl rfl (by repeat' (first | exact Take.here | apply Take.there)) (by simp; omega)) (fun _ _ => ?_)
            rintro rfl
            refine g_nil ?_
            refine g_qb ?_
            refine g_qt ?_
            refine g_region ?_
            refine g_pure (p_move rfl) rfl ?_
            first | refine g_pure (p_addi rfl rfl (by omega)) rfl ?_ | refine g_pure (p_add rfl rfl) rfl ?_
            refine g_pure (p_assign rfl) rfl ?_
            refine g_nil ?_
            refine g_qn ?_
            refine g_fold (k := m + 1) (cap := m + 1) (size := 1) (g := b51) (xs := dcells m (put A l)) .here v1 v2 (by simp; omega) (set_take v4 (by rw [← dcells_put hll, if_neg p]; show List.set _ (0 + (-l).toNat * 1) _ = _; rw [show 0 + (-l).toNat * 1 = l.natAbs by omega])) ?_
            exact g_next (j + 1, put A l) (by repeat (first | exact trivial | refine ⟨by rfl, ?_⟩)) (by repeat' (first | exact Cover.nil | exact Take.here | apply Cover.cons | apply Take.there)) ⟨by dsimp only; omega, hnext⟩ (by dsimp only; omega)
      · have hje2 : j = ls.length := by omega
        rw [hje2, List.drop_length] at hT
        have hset : setF (fun _ => none) [] ls = (true, A, T) := hT.symm
        refine g_exit ?_
        refine g_qt_exit ?_
        refine g_qn_exit ?_
        refine g_qb_exit ?_
        refine g_qt ?_
        refine g_seq ?_
        refine g_seq ?_
        refine g_region ?_
        first | refine g_pure (p_loadO (by rfl) rfl (by first | (apply Has.own; (repeat' (first | exact Take.here | apply Take.there)); done) | exact Has.ro (by assumption)) (by rfl)) rfl ?_ | refine g_pure (p_loadN (by rfl) rfl (by first | (apply Has.own; (repeat' (first | exact Take.here | apply Take.there)); done) | exact Has.ro (by assumption)) (by first | rfl | assumption)) rfl ?_
        refine g_pure (p_move rfl) rfl ?_
        refine g_call (Hin := [OwnSl 3 1 (some ⟨b51, 0, none⟩) (m + 1) (m + 1) (dcells m A)]) (Hr := ?hr3) (R := ?rr3) rfl rfl rfl ?hin3 ?hc3 ?hk3
        case hin3 => repeat' (first | exact Cover.nil | exact Take.here | apply Cover.cons | apply Take.there)
        case hc3 => intro ρ' hρ hR; exact dprop_ok hO' ca cc (hF.mono hρ) A _ _
        rintro _ _ ⟨b, V, rfl, rfl, hp1, hp2⟩
        refine g_pure (p_not rfl) rfl ?_
        refine g_nil ?_
        refine g_qt ?_
        cases b with
        | false =>
          refine g_ift rfl ?_
          refine g_seq ?_
          refine g_region ?_
          refine g_pure (p_assign rfl) rfl ?_
          refine g_pure (p_assign rfl) rfl ?_
          refine g_pure (p_assign rfl) rfl ?_
          refine g_nil ?_
          refine g_qt ?_
          refine g_ret ?_
          refine g_qt_ret ?_
          refine g_ownnil (e := 3) (size := 1) ?_
          exact g_post (rs := [.tmp 4, .tmp 5, .tmp 6]) rfl (.tmp rfl (.tmp rfl (.tmp rfl .nil))) ⟨[], none, 0, false, 0, .inr (.inr ⟨c, hall, rfl, none, .inr ⟨by rw [hset], by rw [hset]; exact hp1 rfl⟩, rfl, rfl⟩), rfl, rfl⟩ (by repeat' (first | exact Cover.nil | exact Take.here | apply Cover.cons | apply Take.there))
        | true =>
          have hur : UR F ls (some V) := .inr ⟨by rw [hset], by rw [hset]; exact hp2 rfl⟩
          refine g_iff rfl ?_
          refine g_skip ?_
          refine g_qt ?_
          refine g_seq ?_
          refine g_region ?_
          refine g_pure (p_assign rfl) rfl ?_
          refine g_nil ?_
          refine g_qt ?_
          refine g_seq ?_
          refine g_seq ?_
          refine g_region ?_
          refine g_pure (p_assign rfl) rfl ?_
          refine g_nil ?_
          refine g_qt ?_
          refine g_block ?_
          refine g_own (a1 := some ⟨b51, 0, none⟩) (k := m + 1) .here (fun _ h _ _ => absurd h (by omega)) ?_
          rintro gv curv hgv v1 v2 v3 v4 v5
          cases hgv
          refine g_ownnil (e := 3) (size := 1) ?_
          refine g_loop (fun y : Nat × Option Addr × Nat => [(2, .pointer (some ⟨b2, 0, none⟩)), (9, .slice (some ⟨b51, 0, none⟩) (m + 1) (m + 1)), (11, .slice y.2.1 (ulits y.1 V).length y.2.2), (12, .int .i64 ((y.1 : Int) + 1))])
            (fun y => [OwnSl 3 1 y.2.1 (ulits y.1 V).length y.2.2 ((ulits y.1 V).map encI), Blk b51 (.cells curv.toArray 3 (0, 0)), Blk b2 (.cells [.int .i64 m, .slice ca F.length cc].toArray 24 (0, 0))]) (fun y => y.1 ≤ m) (fun y => m - y.1) (0, none, 0) (Nat.zero_le _) (by repeat (first | exact trivial | refine ⟨by rfl, ?_⟩)) (by repeat' (first | exact Cover.nil | exact Take.here | apply Cover.cons | apply Take.there)) ?_
          rintro ⟨k, oa, oc⟩ hk
          dsimp only at hk ⊢
          have hul := ulits_len k V
          have hus := ulits_succ k V
          refine g_seq ?_
          refine g_seq ?_
          refine g_region ?_
          refine g_pure (p_move rfl) rfl ?_
          refine g_pure (p_fieldAddr rfl) rfl ?_
          refine g_pure (p_load (by rfl) rfl (by first | (apply Has.own; (repeat' (first | exact Take.here | apply Take.there)); done) | exact Has.ro (by assumption)) (by first | rfl | assumption)) rfl ?_
          refine g_pure (p_leq rfl rfl) rfl ?_
          refine g_nil ?_
          refine g_qt ?_
          refine g_ifd rfl (fun h => ?_) (fun h => ?_)
          · have xu : curv[0 + ((k : Int) + 1).toNat * 1]? = some (.int .i64 (dcode (V (k + 1)))) := own_at (k := k + 1) v4 (by omega) (dcells_at V (by omega))
            refine g_skip ?_
            refine g_qt ?_
            refine g_seq ?_
            refine g_block ?_
            refine g_seq ?_
            refine g_region ?_
            refine g_pure (p_move rfl) rfl ?_
            refine g_pure (p_move rfl) rfl ?_
            refine g_pure (p_indexAddr rfl rfl (by omega) (fun _ => rfl)) rfl ?_
            refine g_pure (p_load (by rfl) rfl (Has.own (by repeat' (first | exact Take.here | apply Take.there))) xu) rfl ?_
            refine g_pure (p_neq rfl rfl) rfl ?_
            refine g_nil ?_
            refine g_qt ?_
            unfold ulit at hus
            refine g_ifnd rfl (fun x => ?_) (fun x => ?_)
            · have hd : (V (k + 1) = some true ∧ dcode (V (k + 1)) = 1) ∨ (V (k + 1) = some false ∧ dcode (V (k + 1)) = -1) := by
                rcases dcode_cases (V (k + 1)) with ⟨h1, h2⟩ | h | h
                · exact absurd h2 x
                · exact .inl h
                · exact .inr h
              have hus2 : ulits (k + 1) V = ulits k V ++ [((k : Int) + 1) * dcode (V (k + 1))] := by
                rcases hd with ⟨h1, h2⟩ | ⟨h1, h2⟩
                · rw [hus, h1]; simp [dcode]
                · rw [hus, h1]; simp [dcode]
              have e1 : (ulits k V).length + 1 = (ulits (k + 1) V).length := by rw [hus2]; simp
              refine g_region ?_
              refine g_pure (p_move rfl) rfl ?_
              refine g_pure (p_move rfl) rfl ?_
              refine g_pure (p_move rfl) rfl ?_
              refine g_pure (p_move rfl) rfl ?_
              refine g_pure (p_indexAddr rfl rfl (by omega) (fun _ => rfl)) rfl ?_
              refine g_pure (p_load (by rfl) rfl (Has.own (by repeat' (first | exact Take.here | apply Take.there))) xu) rfl ?_
              refine g_pure (p_muli rfl rfl (by rcases hd with ⟨_, h2⟩ | ⟨_, h2⟩ <;> rw [h2] <;> omega)) rfl ?_
              refine g_eff (e_bs (xs := [.tmp 104]) rfl rfl rfl (by rfl) (by rfl) rfl (by rfl)) rfl (fun _ _ => ?_)
              rintro ⟨b105, rfl, rfl⟩
              refine g_eff (e_appendO (by rfl) (by rfl) rfl rfl (by first | (apply Has.own; (repeat' (first | exact Take.here | apply Take.there)); done) | exact Has.ro (by assumption)) (by rfl) (by rfl) (by repeat' (first | exact Take.here | apply Take.there)) (by omega) (by first | omega | (dsimp only; omega) | (simp <;> omega)) (by omega)) rfl (fun _ _ => ?_)
              rintro ⟨a106, c106, rfl, rfl⟩
              refine g_pure (p_assign rfl) rfl ?_
              refine g_nil ?_
              refine g_qb ?_
              refine g_qt ?_
              refine g_region ?_
              refine g_pure (p_move rfl) rfl ?_
              first | refine g_pure (p_addi rfl rfl (by omega)) rfl ?_ | refine g_pure (p_add rfl rfl) rfl ?_
              refine g_pure (p_assign rfl) rfl ?_
              refine g_nil ?_
              refine g_qn ?_
              rw [e1]
              refine g_weak (A := OwnSl 3 1 a106 (ulits (k + 1) V).length c106 ((ulits k V).map encI ++ [.int .i64 (((k : Int) + 1) * dcode (V (k + 1)))])) (B := OwnSl 3 1 a106 (ulits (k + 1) V).length c106 ((ulits (k + 1) V).map encI)) (by repeat' (first | exact Take.here | apply Take.there)) (fun h hh => by rw [hus2, List.map_append, ← hus2]; exact hh) ?_
              exact g_next (k + 1, a106, c106) (by repeat (first | exact trivial | refine ⟨by rfl, ?_⟩)) (by repeat' (first | exact Cover.nil | exact Take.here | apply Cover.cons | apply Take.there)) (by dsimp only; omega) (by dsimp only; omega)
            · have hVk : V (k + 1) = none := by
                rcases dcode_cases (V (k + 1)) with ⟨h1, h2⟩ | ⟨h1, h2⟩ | ⟨h1, h2⟩
                · exact h1
                · rw [h2] at x; omega
                · rw [h2] at x; omega
              rw [hVk, List.append_nil] at hus
              rw [← hus]
              refine g_skip ?_
              refine g_qb ?_
              refine g_qt ?_
              refine g_region ?_
              refine g_pure (p_move rfl) rfl ?_
              first | refine g_pure (p_addi rfl rfl (by omega)) rfl ?_ | refine g_pure (p_add rfl rfl) rfl ?_
              refine g_pure (p_assign rfl) rfl ?_
              refine g_nil ?_
              refine g_qn ?_
              exact g_next (k + 1, oa, oc) (by repeat (first | exact trivial | refine ⟨by rfl, ?_⟩)) (by repeat' (first | exact Cover.nil | exact Take.here | apply Cover.cons | apply Take.there)) (by dsimp only; omega) (by dsimp only; omega)
          · have hke : k = m := by omega
            subst hke
            refine g_exit ?_
            refine g_qt_exit ?_
            refine g_qn_exit ?_
            refine g_qb_exit ?_
            refine g_qt ?_
            refine g_seq ?_
            refine g_region ?_
            refine g_pure (p_move rfl) rfl ?_
            refine g_pure (p_assign rfl) rfl ?_
            refine g_pure (p_assign rfl) rfl ?_
            refine g_pure (p_assign rfl) rfl ?_
            refine g_nil ?_
            refine g_qt ?_
            refine g_ret ?_
            exact g_post (rs := [.tmp 4, .tmp 5, .tmp 6]) rfl (.tmp rfl (.tmp rfl (.tmp rfl .nil))) ⟨ulits k V, oa, oc, true, 0, .inr (.inr ⟨c, hall, rfl, some V, hur, by rw [Int.toNat_natCast]; rfl, rfl⟩), rfl, rfl⟩ (by repeat' (first | exact Cover.nil | exact Take.here | apply Cover.cons | apply Take.there))
end Go.Proofs.Ytbpgblbhikeglaa
