/- Chapter 16: merging. Conditions: none. -/
import Derived.Test.YtceecdjckhbncaaD7
namespace Go.Z.Val
set_option linter.unusedVariables false
set_option linter.unusedSimpArgs false
set_option linter.unusedSectionVars false
open Go Go.Z
def MergeF (x : List Ce) (l : List (List Ce)) (t : Nat) : Ce :=
  if thereB (at0 x t) then
    if (at0 x t).1 = 1 ∧ 0 ≤ (at0 x t).2 ∧ (at0 x t).2 < l.length ∧ thereB (at0 (l.getD (at0 x t).2.toNat []) t) = true then cleanF (at0 (l.getD (at0 x t).2.toNat []) t) else (2, 0)
  else (0, 0)
def MergeL (x : List Ce) (l : List (List Ce)) : List Ce := (List.range (lenF (x :: l))).map (MergeF x l)
def mergeU (u c : Ce) (n : Nat) : Ce := if (!thereB u) = true then (0, 0) else if u.1 = 2 ∨ u.2 < 0 ∨ (n : Int) ≤ u.2 ∨ (!thereB c) = true then (2, 0) else c
theorem mergeU_a {u c : Ce} {n : Nat} (h : (!thereB u) = true) : mergeU u c n = (0, 0) := if_pos h
theorem mergeU_b {u c : Ce} {n : Nat} (h : (!thereB u) = false) (h2 : u.1 = 2 ∨ u.2 < 0 ∨ (n : Int) ≤ u.2 ∨ (!thereB c) = true) : mergeU u c n = (2, 0) := by
  unfold mergeU; rw [if_neg (by rw [h]; simp), if_pos h2]
theorem mergeU_c {u c : Ce} {n : Nat} (h : (!thereB u) = false) (h1 : ¬ u.1 = 2) (h2 : ¬ u.2 < 0) (h3 : ¬ (n : Int) ≤ u.2) (h4 : (!thereB c) = false) : mergeU u c n = c := by
  unfold mergeU; rw [if_neg (by rw [h]; simp), if_neg (by rw [h4]; simp; omega)]
def mergeG (x : List Ce) (l : List (List Ce)) (t : Nat) : Ce := mergeU (cleanF (at0 x t)) (cleanF (at0 (l.getD (cleanF (at0 x t)).2.toNat []) t)) l.length
theorem clean_id {u : Ce} (h : u.1 = 1) : cleanF u = u := by unfold cleanF; rw [if_pos h]
theorem mergeG_eq (x : List Ce) (l : List (List Ce)) (t : Nat) : cleanF (mergeG x l t) = MergeF x l t := by
  unfold mergeG MergeF
  generalize at0 x t = u
  cases hu : thereB u with
  | false =>
    rw [mergeU_a (by rw [thereB_clean, hu]; rfl)]; rfl
  | true =>
    rw [if_pos rfl]
    by_cases h1 : u.1 = 1
    · rw [clean_id h1]
      generalize at0 (l.getD u.2.toNat []) t = c
      by_cases h : 0 ≤ u.2 ∧ u.2 < l.length ∧ thereB c = true
      · rw [if_pos ⟨h1, h⟩, mergeU_c (by rw [hu]; rfl) (by omega) (by omega) (by omega) (by rw [thereB_clean, h.2.2]; rfl), cleanF_idem]
      · rw [if_neg (fun hh => h hh.2), mergeU_b (by rw [hu]; rfl) (by rw [thereB_clean]; simp; by_cases h3 : thereB c = true <;> simp [h3] <;> simp [h3] at h <;> omega)]
        rfl
    · have h2 : u.1 = 2 := by unfold thereB at hu; simp at hu; omega
      rw [if_neg (fun hh => h1 hh.1), mergeU_b (by rw [thereB_clean, hu]; rfl) (.inl (by unfold cleanF; rw [if_neg h1, if_pos h2]))]
      rfl
theorem SlS.cons {ρ : Nat → Obj → Prop} {a xa : Option Addr} {x : List Ce} {xc : Nat} {l : List (List Ce)} {cells : List Value} (e1 : cells.length = l.length) (e2 : ∀ j (hj : j < l.length), ∃ aj cj, cells[j]? = some (.slice aj l[j].length cj) ∧ RSl ρ 2 aj l[j].length (l[j].flatMap encC)) (hx : RSl ρ 2 xa x.length (x.flatMap encC)) (h : RSl ρ 1 a (l.length + 1) (.slice xa x.length xc :: cells)) : SlS ρ a (x :: l) := by
  refine ⟨.slice xa x.length xc :: cells, by simp [e1], fun j hj => ?_, h⟩
  cases j with
  | zero => exact ⟨xa, xc, rfl, hx⟩
  | succ j => exact e2 j (by simpa using hj)
theorem one_of {ρ : Nat → Obj → Prop} {l : List (List Ce)} {cells : List Value} (e1 : cells.length = l.length) (e2 : ∀ j (hj : j < l.length), ∃ aj cj, cells[j]? = some (.slice aj l[j].length cj) ∧ RSl ρ 2 aj l[j].length (l[j].flatMap encC)) : one1 cells = true := by
  unfold one1; rw [List.all_eq_true]
  intro v hv
  obtain ⟨j, hj, rfl⟩ := List.mem_iff_getElem.1 hv
  obtain ⟨aj, cj, e, _⟩ := e2 j (by omega)
  rw [List.getElem?_eq_getElem hj] at e
  rw [Option.some.inj e]; rfl
end Go.Z.Val
namespace Go.Proofs.Ytceecdjckhbncaa
open Go Go.Z Go.Z.Val

theorem merge1_ok {ρ : Nat → Obj → Prop} {x : List Ce} {l : List (List Ce)} {t p3 : Nat} {la : Option Addr} {lc : Nat} (hlen : l.length ≤ 1000000) (h3 : ρ p3 (.cells [.slice la l.length lc].toArray 24 (0, 0))) {ca : Option Addr} {k : Nat} (ek : k = (x :: l).length) (hc : RSl ρ 2 ca k ((cellsAt (x :: l) t).flatMap encC)) :
    Con Try.prog ρ 49 #[.slice ca k k, .pointer (some ⟨p3, 0, none⟩)] [Al []] (fun v H => v = aggC (mergeG x l t) ∧ H = [Al []]) := by
  obtain ⟨_, bl, ol, kl, Tl, fl, hl⟩ := hc
  obtain ⟨l1, l2, l3⟩ := hl (by rw [ek]; simp)
  obtain ⟨x0, y1, y2⟩ := cell_at l3 (k := 0) (by simp [cellsAt])
  have x0' : sub kl (ol + (0 : Int).toNat * 2) 2 = some (encC (cleanF (at0 x t))) := x0
  have y1' : kl[ol + (0 : Int).toNat * 2]? = some (.int .i64 (cleanF (at0 x t)).1) := y1
  have y2' : kl[ol + (0 : Int).toNat * 2 + 1]? = some (.int .i64 (cleanF (at0 x t)).2) := y2
  clear x0 y1 y2
  have hcell : 0 ≤ (cleanF (at0 x t)).2 → (cleanF (at0 x t)).2 < l.length → ∀ K : Int, K = (cleanF (at0 x t)).2 + 1 → sub kl (ol + K.toNat * 2) 2 = some (encC (cleanF (at0 (l.getD (cleanF (at0 x t)).2.toNat []) t))) := by
    intro h1 h2 K hK
    obtain ⟨z0, -, -⟩ := cell_at l3 (k := K.toNat) (by rw [cellsAt_len, List.length_cons]; omega)
    rw [z0]
    congr 2
    subst hK
    have hm : ((cleanF (at0 x t)).2 + 1).toNat = (cleanF (at0 x t)).2.toNat + 1 := by omega
    simp only [cellsAt, List.getElem_map, hm, List.getElem_cons_succ]
    rw [List.getD_eq_getElem?_getD, List.getElem?_eq_getElem (by omega)]; rfl
  unfold mergeG
  generalize cleanF (at0 (l.getD (cleanF (at0 x t)).2.toNat []) t) = c at *
  generalize cleanF (at0 x t) = u at *
  obtain ⟨u1, u2⟩ := u
  obtain ⟨c1, c2⟩ := c
  dsimp only at hcell
  refine con_intro Try.func49 Try.call49 rfl Try.ntmps49 rfl (L := [(0, _), (1, _)]) rfl fun w hh => ?_
  refine g_seq ?_
  refine g_region ?_
  refine g_eff (e_alloc (by rfl)) rfl (fun _ _ => ?_)
  rintro ⟨b3, rfl, rfl⟩
  refine g_nil ?_
  refine g_qt ?_
  refine g_seq ?_
  refine g_region ?_
  refine g_pure (p_move rfl) rfl ?_
  refine g_pure (p_indexAddr rfl rfl (by rw [ek, List.length_cons]; omega) (fun _ => l1)) rfl ?_
  refine g_pure (p_fieldAddr rfl) rfl ?_
  refine g_pure (p_load (by rfl) rfl (Has.ro l2) y2') rfl ?_
  refine g_pure (p_add rfl rfl) rfl ?_
  refine g_pure (p_assign rfl) rfl ?_
  refine g_nil ?_
  refine g_qt ?_
  refine g_seq ?_
  have hK : 0 ≤ u2 → u2 < l.length → IntKind.i64.wrap (u2 + 1) = u2 + 1 := fun h1 h2 => i64_in (by omega) (by omega)
  generalize IntKind.i64.wrap (u2 + 1) = K at *
  have hK2 : 0 ≤ u2 → u2 < l.length → 0 ≤ K ∧ K < (k : Int) := fun h1 h2 => by rw [hK h1 h2, ek, List.length_cons]; omega
  refine g_block ?_
  refine g_seq ?_
  refine g_region ?_
  refine g_pure (p_move rfl) rfl ?_
  refine g_pure (p_indexAddr rfl rfl (by rw [ek, List.length_cons]; omega) (fun _ => l1)) rfl ?_
  refine g_pure (p_loadN (by rfl) rfl (Has.ro l2) x0') rfl ?_
  refine g_call (Hin := []) (Hr := ?hr1) (R := ?rr1) rfl rfl rfl ?hin1 ?hc1 ?hk1
  case hin1 => repeat' (first | exact Cover.nil | exact Take.here | apply Cover.cons | apply Take.there)
  case hc1 => intro ρ' hρ hR; exact there_ok (u1, u2)
  rintro _ _ ⟨rfl, rfl⟩
  refine g_pure (p_not rfl) rfl ?_
  refine g_pure (p_assign rfl) rfl ?_
  refine g_nil ?_
  refine g_qt ?_
  refine g_ifL rfl (fun h1 => ?_) (fun h1 => ?_)
  · refine g_seq ?_
    refine g_region ?_
    refine g_pure (p_build (by rfl) rfl (by rfl)) rfl ?_
    first | refine g_eff0 (e_storeO rfl rfl (by rfl) (by rfl) (by rfl) (by repeat' (first | exact Take.here | apply Take.there)) (by rfl)) (fun _ _ => ?_) | refine g_eff0 (e_storeN rfl rfl (by rfl) (by rfl) (by rfl) (by repeat' (first | exact Take.here | apply Take.there)) (by simp)) (fun _ _ => ?_)
    rintro rfl
    refine g_nil ?_
    refine g_qt ?_
    refine g_ret ?_
    refine g_qb_ret ?_
    refine g_qt_ret ?_
    exact g_post (Ho := [Al []]) (rs := [.cell 3 31]) rfl (Res.cellN (by rfl) rfl (Has.own (by repeat' (first | exact Take.here | apply Take.there))) (by rfl) .nil) ⟨by first | (rw [mergeU_a (by assumption)]; rfl) | (rw [mergeU_b (by assumption) (.inl (by assumption))]; rfl) | (rw [mergeU_b (by assumption) (.inr (.inl (by assumption)))]; rfl) | (rw [mergeU_b (by assumption) (.inr (.inr (.inl (by assumption))))]; rfl) | (rw [mergeU_b (by assumption) (.inr (.inr (.inr (by assumption))))]; rfl) | (rw [mergeU_c (by assumption) (by assumption) (by assumption) (by assumption) (by assumption)]; rfl), rfl⟩ (by repeat' (first | exact Cover.nil | exact Take.here | apply Cover.cons | apply Take.there))
  · refine g_seq ?_
    refine m_begin0 (.fl 0 0 (.fl 1 0 (.fl 2 0 (.fl 3 1 (.fl 4 0 (.fl 5 0 (.fl 6 0 (.fl 7 0 (.fl 8 0 (.fl 9 1 (.fl 10 0 (.fl 11 0 (.fl 12 0 (.fl 13 0 (.fl 14 0 (.fl 15 0 (.fl 16 1 (.fl 17 1 (.fl 18 0 (.fl 19 0 (.fl 20 0 (.fl 21 0 (.fl 22 0 (.fl 23 0 (.fl 24 0 (.fl 25 1 (.ef 26 (.fl 27 0 (.fl 28 0 (.fl 29 0 .done)))))))))))))))))))))))))))))) (by kernel_rfl) (by kernel_rfl) ?_
    refine m_float0 rfl (fun _ _ => p_move rfl) rfl ?_
    refine m_float0 rfl (fun _ _ => p_indexAddr rfl rfl (by rw [ek, List.length_cons]; omega) (fun _ => l1)) rfl ?_
    refine m_float0 rfl (fun _ _ => p_fieldAddr rfl) rfl ?_
    refine m_float rfl (p_load (by rfl) rfl (Has.ro l2) y1') rfl ?_
    refine m_float0 rfl (fun _ _ => p_eql rfl rfl) rfl ?_
    refine m_float0 rfl (fun _ _ => p_move rfl) rfl ?_
    refine m_splitd 5 rfl rfl (fun h2 => ?_) (fun h2 => ?_)
    · refine m_no0 rfl rfl rfl rfl rfl ?_
      refine m_no0 rfl rfl rfl rfl rfl ?_
      refine m_no0 rfl rfl rfl rfl rfl ?_
      refine m_no rfl rfl rfl rfl rfl ?_
      refine m_no0 rfl rfl rfl rfl rfl ?_
      first | refine m_float0 rfl (fun _ _ => p_pickt rfl rfl) rfl ?_ | refine m_float0 rfl (fun _ _ => p_pickf rfl rfl) rfl ?_
      refine m_float0 rfl (fun _ _ => p_move rfl) rfl ?_
      refine m_no0 rfl rfl rfl rfl rfl ?_
      refine m_no0 rfl rfl rfl rfl rfl ?_
      refine m_no0 rfl rfl rfl rfl rfl ?_
      refine m_no rfl rfl rfl rfl rfl ?_
      refine m_no rfl rfl rfl rfl rfl ?_
      refine m_no0 rfl rfl rfl rfl rfl ?_
      refine m_no0 rfl rfl rfl rfl rfl ?_
      first | refine m_float0 rfl (fun _ _ => p_pickt rfl rfl) rfl ?_ | refine m_float0 rfl (fun _ _ => p_pickf rfl rfl) rfl ?_
      refine m_float0 rfl (fun _ _ => p_move rfl) rfl ?_
      refine m_no0 rfl rfl rfl rfl rfl ?_
      refine m_no0 rfl rfl rfl rfl rfl ?_
      refine m_no0 rfl rfl rfl rfl rfl ?_
      refine m_no rfl rfl rfl rfl rfl ?_
      refine m_noe rfl rfl rfl rfl rfl (.none (by kernel_rfl)) ?_
      refine m_no0 rfl rfl rfl rfl rfl ?_
      first | refine m_float0 rfl (fun _ _ => p_pickt rfl rfl) rfl ?_ | refine m_float0 rfl (fun _ _ => p_pickf rfl rfl) rfl ?_
      refine m_float0 rfl (fun _ _ => p_assign rfl) rfl ?_
      refine m_nil ?_
      refine g_qt ?_
      refine g_ift rfl ?_
      refine g_seq ?_
      refine g_region ?_
      refine g_call (Hin := []) (Hr := ?hr2) (R := ?rr2) rfl rfl rfl ?hin2 ?hc2 ?hk2
      case hin2 => repeat' (first | exact Cover.nil | exact Take.here | apply Cover.cons | apply Take.there)
      case hc2 => intro ρ' hρ hR; exact undef_ok
      rintro _ _ ⟨rfl, rfl⟩
      first | refine g_eff0 (e_storeO rfl rfl (by rfl) (by rfl) (by rfl) (by repeat' (first | exact Take.here | apply Take.there)) (by rfl)) (fun _ _ => ?_) | refine g_eff0 (e_storeN rfl rfl (by rfl) (by rfl) (by rfl) (by repeat' (first | exact Take.here | apply Take.there)) (by simp)) (fun _ _ => ?_)
      rintro rfl
      refine g_nil ?_
      refine g_qt ?_
      refine g_ret ?_
      refine g_qb_ret ?_
      refine g_qt_ret ?_
      exact g_post (Ho := [Al []]) (rs := [.cell 3 31]) rfl (Res.cellN (by rfl) rfl (Has.own (by repeat' (first | exact Take.here | apply Take.there))) (by rfl) .nil) ⟨by first | (rw [mergeU_a (by assumption)]; rfl) | (rw [mergeU_b (by assumption) (.inl (by assumption))]; rfl) | (rw [mergeU_b (by assumption) (.inr (.inl (by assumption)))]; rfl) | (rw [mergeU_b (by assumption) (.inr (.inr (.inl (by assumption))))]; rfl) | (rw [mergeU_b (by assumption) (.inr (.inr (.inr (by assumption))))]; rfl) | (rw [mergeU_c (by assumption) (by assumption) (by assumption) (by assumption) (by assumption)]; rfl), rfl⟩ (by repeat' (first | exact Cover.nil | exact Take.here | apply Cover.cons | apply Take.there))
    · refine m_yes0 rfl rfl rfl (fun _ _ => p_move rfl) rfl ?_
      refine m_yes0 rfl rfl rfl (fun _ _ => p_indexAddr rfl rfl (by rw [ek, List.length_cons]; omega) (fun _ => l1)) rfl ?_
      refine m_yes0 rfl rfl rfl (fun _ _ => p_fieldAddr rfl) rfl ?_
      refine m_yes rfl rfl rfl (p_load (by rfl) rfl (Has.ro l2) y2') rfl ?_
      refine m_yes0 rfl rfl rfl (fun _ _ => p_lss rfl rfl) rfl ?_
      first | refine m_float0 rfl (fun _ _ => p_pickt rfl rfl) rfl ?_ | refine m_float0 rfl (fun _ _ => p_pickf rfl rfl) rfl ?_
      refine m_float0 rfl (fun _ _ => p_move rfl) rfl ?_
      refine m_splitd 12 rfl rfl (fun h6 => ?_) (fun h6 => ?_)
      · refine m_no0 rfl rfl rfl rfl rfl ?_
        refine m_no0 rfl rfl rfl rfl rfl ?_
        refine m_no0 rfl rfl rfl rfl rfl ?_
        refine m_no rfl rfl rfl rfl rfl ?_
        refine m_no rfl rfl rfl rfl rfl ?_
        refine m_no0 rfl rfl rfl rfl rfl ?_
        refine m_no0 rfl rfl rfl rfl rfl ?_
        first | refine m_float0 rfl (fun _ _ => p_pickt rfl rfl) rfl ?_ | refine m_float0 rfl (fun _ _ => p_pickf rfl rfl) rfl ?_
        refine m_float0 rfl (fun _ _ => p_move rfl) rfl ?_
        refine m_no0 rfl rfl rfl rfl rfl ?_
        refine m_no0 rfl rfl rfl rfl rfl ?_
        refine m_no0 rfl rfl rfl rfl rfl ?_
        refine m_no rfl rfl rfl rfl rfl ?_
        refine m_noe rfl rfl rfl rfl rfl (.none (by kernel_rfl)) ?_
        refine m_no0 rfl rfl rfl rfl rfl ?_
        first | refine m_float0 rfl (fun _ _ => p_pickt rfl rfl) rfl ?_ | refine m_float0 rfl (fun _ _ => p_pickf rfl rfl) rfl ?_
        refine m_float0 rfl (fun _ _ => p_assign rfl) rfl ?_
        refine m_nil ?_
        refine g_qt ?_
        refine g_ift rfl ?_
        refine g_seq ?_
        refine g_region ?_
        refine g_call (Hin := []) (Hr := ?hr3) (R := ?rr3) rfl rfl rfl ?hin3 ?hc3 ?hk3
        case hin3 => repeat' (first | exact Cover.nil | exact Take.here | apply Cover.cons | apply Take.there)
        case hc3 => intro ρ' hρ hR; exact undef_ok
        rintro _ _ ⟨rfl, rfl⟩
        first | refine g_eff0 (e_storeO rfl rfl (by rfl) (by rfl) (by rfl) (by repeat' (first | exact Take.here | apply Take.there)) (by rfl)) (fun _ _ => ?_) | refine g_eff0 (e_storeN rfl rfl (by rfl) (by rfl) (by rfl) (by repeat' (first | exact Take.here | apply Take.there)) (by simp)) (fun _ _ => ?_)
        rintro rfl
        refine g_nil ?_
        refine g_qt ?_
        refine g_ret ?_
        refine g_qb_ret ?_
        refine g_qt_ret ?_
        exact g_post (Ho := [Al []]) (rs := [.cell 3 31]) rfl (Res.cellN (by rfl) rfl (Has.own (by repeat' (first | exact Take.here | apply Take.there))) (by rfl) .nil) ⟨by first | (rw [mergeU_a (by assumption)]; rfl) | (rw [mergeU_b (by assumption) (.inl (by assumption))]; rfl) | (rw [mergeU_b (by assumption) (.inr (.inl (by assumption)))]; rfl) | (rw [mergeU_b (by assumption) (.inr (.inr (.inl (by assumption))))]; rfl) | (rw [mergeU_b (by assumption) (.inr (.inr (.inr (by assumption))))]; rfl) | (rw [mergeU_c (by assumption) (by assumption) (by assumption) (by assumption) (by assumption)]; rfl), rfl⟩ (by repeat' (first | exact Cover.nil | exact Take.here | apply Cover.cons | apply Take.there))
      · refine m_yes0 rfl rfl rfl (fun _ _ => p_move rfl) rfl ?_
        refine m_yes0 rfl rfl rfl (fun _ _ => p_indexAddr rfl rfl (by rw [ek, List.length_cons]; omega) (fun _ => l1)) rfl ?_
        refine m_yes0 rfl rfl rfl (fun _ _ => p_fieldAddr rfl) rfl ?_
        refine m_yes rfl rfl rfl (p_load (by rfl) rfl (Has.ro l2) y2') rfl ?_
        refine m_yes rfl rfl rfl (p_load (by rfl) rfl (Has.ro h3) (by rfl)) rfl ?_
        refine m_yes0 rfl rfl rfl (fun _ _ => p_len (by rfl) rfl) rfl ?_
        refine m_yes0 rfl rfl rfl (fun _ _ => p_geq rfl rfl) rfl ?_
        first | refine m_float0 rfl (fun _ _ => p_pickt rfl rfl) rfl ?_ | refine m_float0 rfl (fun _ _ => p_pickf rfl rfl) rfl ?_
        refine m_float0 rfl (fun _ _ => p_move rfl) rfl ?_
        refine m_splitd 21 rfl rfl (fun h9 => ?_) (fun h9 => ?_)
        · refine m_no0 rfl rfl rfl rfl rfl ?_
          refine m_no0 rfl rfl rfl rfl rfl ?_
          refine m_no0 rfl rfl rfl rfl rfl ?_
          refine m_no rfl rfl rfl rfl rfl ?_
          refine m_noe rfl rfl rfl rfl rfl (.none (by kernel_rfl)) ?_
          refine m_no0 rfl rfl rfl rfl rfl ?_
          first | refine m_float0 rfl (fun _ _ => p_pickt rfl rfl) rfl ?_ | refine m_float0 rfl (fun _ _ => p_pickf rfl rfl) rfl ?_
          refine m_float0 rfl (fun _ _ => p_assign rfl) rfl ?_
          refine m_nil ?_
          refine g_qt ?_
          refine g_ift rfl ?_
          refine g_seq ?_
          refine g_region ?_
          refine g_call (Hin := []) (Hr := ?hr4) (R := ?rr4) rfl rfl rfl ?hin4 ?hc4 ?hk4
          case hin4 => repeat' (first | exact Cover.nil | exact Take.here | apply Cover.cons | apply Take.there)
          case hc4 => intro ρ' hρ hR; exact undef_ok
          rintro _ _ ⟨rfl, rfl⟩
          first | refine g_eff0 (e_storeO rfl rfl (by rfl) (by rfl) (by rfl) (by repeat' (first | exact Take.here | apply Take.there)) (by rfl)) (fun _ _ => ?_) | refine g_eff0 (e_storeN rfl rfl (by rfl) (by rfl) (by rfl) (by repeat' (first | exact Take.here | apply Take.there)) (by simp)) (fun _ _ => ?_)
          rintro rfl
          refine g_nil ?_
          refine g_qt ?_
          refine g_ret ?_
          refine g_qb_ret ?_
          refine g_qt_ret ?_
          exact g_post (Ho := [Al []]) (rs := [.cell 3 31]) rfl (Res.cellN (by rfl) rfl (Has.own (by repeat' (first | exact Take.here | apply Take.there))) (by rfl) .nil) ⟨by first | (rw [mergeU_a (by assumption)]; rfl) | (rw [mergeU_b (by assumption) (.inl (by assumption))]; rfl) | (rw [mergeU_b (by assumption) (.inr (.inl (by assumption)))]; rfl) | (rw [mergeU_b (by assumption) (.inr (.inr (.inl (by assumption))))]; rfl) | (rw [mergeU_b (by assumption) (.inr (.inr (.inr (by assumption))))]; rfl) | (rw [mergeU_c (by assumption) (by assumption) (by assumption) (by assumption) (by assumption)]; rfl), rfl⟩ (by repeat' (first | exact Cover.nil | exact Take.here | apply Cover.cons | apply Take.there))
        · refine m_yes0 rfl rfl rfl (fun _ _ => p_move rfl) rfl ?_
          refine m_yes0 rfl rfl rfl (fun _ _ => p_move rfl) rfl ?_
          refine m_yes0 rfl rfl rfl (fun _ _ => p_indexAddr rfl rfl (hK2 (by omega) (by omega)) (fun _ => l1)) rfl ?_
          refine m_yes rfl rfl rfl (p_loadN (by rfl) rfl (Has.ro l2) (hcell (by omega) (by omega) K (hK (by omega) (by omega)))) rfl ?_
          refine m_call (Hin := []) (Hr := ?hr5) (R := ?rr5) rfl (wantedY rfl rfl) rfl rfl rfl ?hin5 ?hc5 ?hk5
          case hin5 => repeat' (first | exact Cover.nil | exact Take.here | apply Cover.cons | apply Take.there)
          case hc5 => intro ρ' hρ hR; exact there_ok (c1, c2)
          rintro _ _ ⟨rfl, rfl⟩
          refine ⟨.none (by kernel_rfl), ?_⟩
          refine m_yes0 rfl rfl rfl (fun _ _ => p_not rfl) rfl ?_
          first | refine m_float0 rfl (fun _ _ => p_pickt rfl rfl) rfl ?_ | refine m_float0 rfl (fun _ _ => p_pickf rfl rfl) rfl ?_
          refine m_float0 rfl (fun _ _ => p_assign rfl) rfl ?_
          refine m_nil ?_
          refine g_qt ?_
          refine g_ifL rfl (fun h11 => ?_) (fun h11 => ?_)
          · refine g_seq ?_
            refine g_region ?_
            refine g_call (Hin := []) (Hr := ?hr6) (R := ?rr6) rfl rfl rfl ?hin6 ?hc6 ?hk6
            case hin6 => repeat' (first | exact Cover.nil | exact Take.here | apply Cover.cons | apply Take.there)
            case hc6 => intro ρ' hρ hR; exact undef_ok
            rintro _ _ ⟨rfl, rfl⟩
            first | refine g_eff0 (e_storeO rfl rfl (by rfl) (by rfl) (by rfl) (by repeat' (first | exact Take.here | apply Take.there)) (by rfl)) (fun _ _ => ?_) | refine g_eff0 (e_storeN rfl rfl (by rfl) (by rfl) (by rfl) (by repeat' (first | exact Take.here | apply Take.there)) (by simp)) (fun _ _ => ?_)
            rintro rfl
            refine g_nil ?_
            refine g_qt ?_
            refine g_ret ?_
            refine g_qb_ret ?_
            refine g_qt_ret ?_
            exact g_post (Ho := [Al []]) (rs := [.cell 3 31]) rfl (Res.cellN (by rfl) rfl (Has.own (by repeat' (first | exact Take.here | apply Take.there))) (by rfl) .nil) ⟨by first | (rw [mergeU_a (by assumption)]; rfl) | (rw [mergeU_b (by assumption) (.inl (by assumption))]; rfl) | (rw [mergeU_b (by assumption) (.inr (.inl (by assumption)))]; rfl) | (rw [mergeU_b (by assumption) (.inr (.inr (.inl (by assumption))))]; rfl) | (rw [mergeU_b (by assumption) (.inr (.inr (.inr (by assumption))))]; rfl) | (rw [mergeU_c (by assumption) (by assumption) (by assumption) (by assumption) (by assumption)]; rfl), rfl⟩ (by repeat' (first | exact Cover.nil | exact Take.here | apply Cover.cons | apply Take.there))
          · refine g_skip ?_
            refine g_qb ?_
            refine g_qt ?_
            refine g_seq ?_
            refine g_region ?_
            refine g_pure (p_move rfl) rfl ?_
            refine g_pure (p_move rfl) rfl ?_
            refine g_pure (p_indexAddr rfl rfl (hK2 (by omega) (by omega)) (fun _ => l1)) rfl ?_
            refine g_pure (p_loadN (by rfl) rfl (Has.ro l2) (hcell (by omega) (by omega) K (hK (by omega) (by omega)))) rfl ?_
            first | refine g_eff0 (e_storeO rfl rfl (by rfl) (by rfl) (by rfl) (by repeat' (first | exact Take.here | apply Take.there)) (by rfl)) (fun _ _ => ?_) | refine g_eff0 (e_storeN rfl rfl (by rfl) (by rfl) (by rfl) (by repeat' (first | exact Take.here | apply Take.there)) (by simp)) (fun _ _ => ?_)
            rintro rfl
            refine g_nil ?_
            refine g_qt ?_
            refine g_ret ?_
            exact g_post (Ho := [Al []]) (rs := [.cell 3 31]) rfl (Res.cellN (by rfl) rfl (Has.own (by repeat' (first | exact Take.here | apply Take.there))) (by rfl) .nil) ⟨by first | (rw [mergeU_a (by assumption)]; rfl) | (rw [mergeU_b (by assumption) (.inl (by assumption))]; rfl) | (rw [mergeU_b (by assumption) (.inr (.inl (by assumption)))]; rfl) | (rw [mergeU_b (by assumption) (.inr (.inr (.inl (by assumption))))]; rfl) | (rw [mergeU_b (by assumption) (.inr (.inr (.inr (by assumption))))]; rfl) | (rw [mergeU_c (by assumption) (by assumption) (by assumption) (by assumption) (by assumption)]; rfl), rfl⟩ (by repeat' (first | exact Cover.nil | exact Take.here | apply Cover.cons | apply Take.there))
end Go.Proofs.Ytceecdjckhbncaa
