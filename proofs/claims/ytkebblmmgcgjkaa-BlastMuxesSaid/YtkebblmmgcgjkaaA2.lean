/- Chapter 35: the methods of a graph. Conditions: none. -/
import Derived.Test.YtkebblmmgcgjkaaA1
namespace Go.Proofs.Ytkebblmmgcgjkaa
set_option maxRecDepth 8000
set_option linter.unusedVariables false
set_option linter.unusedSimpArgs false
set_option linter.unusedSectionVars false
open Go Go.Z Go.Z.Aig


theorem hasB_iff {S : St} {a : Int} : hasB S a = true ↔ has S a := by unfold hasB has; simp

theorem and_ok {ρ : Nat → Obj → Prop} (p : Nat) (S : St) (a b : Int) (ha : I64 a) (hb : I64 b) :
    Con Try.prog ρ 14 #[.pointer (some ⟨p, 0, none⟩), .int .i64 a, .int .i64 b] [Gr p S] (fun v H => v = .tuple #[.int .i64 (and1 S a b).1, .int .i64 (and1 S a b).2.1] ∧ H = [Gr p (and1 S a b).2.2]) := by
  refine con_intro Try.func14 Try.call14 rfl Try.ntmps14 rfl (L := [(0, _), (1, _), (2, _)]) rfl fun w hh => ?_
  refine g_seq ?_
  refine g_region ?_
  refine g_pure (p_assign rfl) rfl ?_
  refine g_pure (p_assign rfl) rfl ?_
  refine g_nil ?_
  refine g_qt ?_
  refine g_seq ?_
  refine g_seq ?_
  refine g_region ?_
  refine g_pure (p_move rfl) rfl ?_
  refine g_pure (p_move rfl) rfl ?_
  refine g_pure (p_move rfl) rfl ?_
  refine g_eff (e_bs (xs := [.tmp 10, .tmp 11]) rfl rfl rfl (by rfl) (by rfl) rfl (by rfl)) rfl (fun _ _ => ?_)
  rintro ⟨b12, rfl, rfl⟩
  by_cases hy : hasB S a = true ∧ hasB S b = true
  · refine g_call (Hin := []) (Hr := ?hr1) (R := ?rr1) rfl rfl rfl ?hin1 ?hc1 ?hk1
    case hin1 => repeat' (first | exact Cover.nil | exact Take.here | apply Cover.cons | apply Take.there)
    case hc1 => intro ρ' hρ hR; exact ask_yes p S _ 2 [a, b] (.of_blk hR.1.blk (by simp)) (by simp) (by simp; exact ⟨ha, hb⟩) hR.2.1 (by simp [hy])
    rintro _ _ ⟨rfl, rfl⟩
    refine g_pure (p_assign rfl) rfl ?_
    refine g_nil ?_
    refine g_qt ?_
    refine g_seq ?_
    refine g_region ?_
    refine g_pure (p_move rfl) rfl ?_
    refine g_pure (p_neq rfl rfl) rfl ?_
    refine g_nil ?_
    refine g_qt ?_
    refine g_iff rfl ?_
    refine g_skip ?_
    refine g_qt ?_
    refine g_seq ?_
    refine g_region ?_
    refine g_pure (p_move rfl) rfl ?_
    refine g_pure (p_move rfl) rfl ?_
    refine g_pure (p_move rfl) rfl ?_
    refine g_call (Hin := ?hi2) (Hr := ?hr2) (R := ?rr2) rfl rfl rfl ?hin2 ?hc2 ?hk2
    case hc2 => intro ρ' hρ hR; exact and0_ok p S a b (hasB_iff.1 hy.1) (hasB_iff.1 hy.2)
    case hin2 => repeat' (first | exact Cover.nil | exact Take.here | apply Cover.cons | apply Take.there)
    rintro _ _ ⟨rfl, rfl⟩
    refine g_pure (p_extract rfl rfl) rfl ?_
    refine g_pure (p_extract rfl rfl) rfl ?_
    refine g_pure (p_assign rfl) rfl ?_
    refine g_pure (p_assign rfl) rfl ?_
    refine g_nil ?_
    refine g_qt ?_
    refine g_ret ?_
    have e : and1 S a b = and0 S a b := by unfold and1; rw [hy.1, hy.2]; rfl
    exact g_post (rs := [.tmp 6, .tmp 7]) rfl (.tmp rfl (.tmp rfl .nil)) ⟨by rw [e]; rfl, by rw [e]⟩ (by repeat' (first | exact Cover.nil | exact Take.here | apply Cover.cons | apply Take.there))
  · have e0 : (hasB S a && hasB S b) = false := by cases h1 : hasB S a <;> cases h2 : hasB S b <;> simp_all
    refine g_call (Hin := []) (Hr := ?hr3) (R := ?rr3) rfl rfl rfl ?hin3 ?hc3 ?hk3
    case hin3 => repeat' (first | exact Cover.nil | exact Take.here | apply Cover.cons | apply Take.there)
    case hc3 => intro ρ' hρ hR; exact ask_no p S _ 2 [a, b] (.of_blk hR.1.blk (by simp)) (by simp) (by simp; exact ⟨ha, hb⟩) hR.2.1 (by simpa using e0)
    rintro _ _ ⟨rfl, rfl⟩
    refine g_pure (p_assign rfl) rfl ?_
    refine g_nil ?_
    refine g_qt ?_
    refine g_seq ?_
    refine g_region ?_
    refine g_pure (p_move rfl) rfl ?_
    refine g_pure (p_neq rfl rfl) rfl ?_
    refine g_nil ?_
    refine g_qt ?_
    refine g_ift rfl ?_
    refine g_seq ?_
    refine g_region ?_
    refine g_pure (p_move rfl) rfl ?_
    refine g_pure (p_assign rfl) rfl ?_
    refine g_pure (p_assign rfl) rfl ?_
    refine g_nil ?_
    refine g_qt ?_
    refine g_ret ?_
    refine g_qt_ret ?_
    have e : and1 S a b = (0, 14, S) := by unfold and1; rw [e0]; rfl
    exact g_post (rs := [.tmp 6, .tmp 7]) rfl (.tmp rfl (.tmp rfl .nil)) ⟨by rw [e]; rfl, by rw [e]⟩ (by repeat' (first | exact Cover.nil | exact Take.here | apply Cover.cons | apply Take.there))

theorem undo_ok {ρ : Nat → Obj → Prop} (p : Nat) (S : St) (m : Nat) (h0 : 0 < m) (hm : m ≤ S.length) (hi : ins 0 (S.take m) = ins 0 S) :
    Con Try.prog ρ 135 #[.pointer (some ⟨p, 0, none⟩), .int .i64 m] [Gr p S] (fun v H => v = .tuple #[] ∧ H = [Gr p (S.take m)]) := by
  refine con_intro Try.func135 Try.call135 rfl Try.ntmps135 rfl (L := [(0, _), (1, _)]) rfl fun w hh => ?_
  refine g_open .here ?_
  rintro _ ⟨av, cv, ai, ci, mb, kn, rfl, hw, hk⟩
  have hlim := hw.lim
  refine g_own (.there .here) (fun h1 h2 _ _ => absurd h2 (by have := hw.pos; omega)) ?_
  rintro g cur rfl hc1 hc2 hc3 hc4 hc5
  refine g_seq ?_
  refine g_seq ?_
  refine g_region ?_
  refine g_pure (p_move rfl) rfl ?_
  refine g_pure (p_nilCheck rfl) rfl ?_
  refine g_pure (p_fieldAddr rfl) rfl ?_
  refine g_pure (p_load (by rfl) rfl (by first | (apply Has.own; (repeat' (first | exact Take.here | apply Take.there)); done) | exact Has.ro (by assumption)) (by first | rfl | assumption)) rfl ?_
  refine g_pure (p_move rfl) rfl ?_
  refine g_pure (p_slicel rfl rfl (by omega)) rfl ?_
  refine g_pure (p_len (by rfl) rfl) rfl ?_
  refine g_pure (p_move rfl) rfl ?_
  refine g_nil ?_
  refine g_qt ?_
  refine g_block ?_
  have hmc : ¬ cv = (m : Int).toNat ∨ m = S.length := by omega
  have had : 0 < S.length - (m : Int).toNat → (if cv = (m : Int).toNat then some (⟨g, 0, none⟩ : Addr) else (some ⟨g, 0, none⟩ : Option Addr).map (·.add ((m : Int).toNat * 2))) = some ⟨g, m * 2, none⟩ := fun hlt => by
    rw [if_neg (by omega)]
    simp only [Option.map_some, Int.toNat_natCast, Addr.add]
    split <;> simp_all
  refine g_loop (fun k : Nat => [(0, .pointer (some ⟨p, 0, none⟩)), (1, .int .i64 m), (11, .slice (if cv = (m : Int).toNat then some (⟨g, 0, none⟩ : Addr) else (some ⟨g, 0, none⟩ : Option Addr).map (·.add ((m : Int).toNat * 2))) (S.length - (m : Int).toNat) (cv - (m : Int).toNat)), (12, .int .i64 (S.length - (m : Int).toNat : Nat)), (13, .int .i64 k)])
    (fun k => [Blk p (.cells [.slice (some ⟨g, 0, none⟩) S.length cv, .slice ai (ins 0 S).length ci, .map (some mb)].toArray 85 (0, 0)), Blk g (.cells cur.toArray 88 (0, 0)), OwnSl 27 1 ai (ins 0 S).length ci ((ins 0 S).map encI), MapB encK mb (undoK kn ((S.drop m).take k))])
    (fun k => k ≤ S.length - m) (fun k => S.length - m - k) 0 (Nat.zero_le _) (by (repeat (first | exact trivial | refine ⟨by rfl, ?_⟩)); done) (by repeat' (first | exact Cover.nil | exact Take.here | apply Cover.cons | apply Take.there)) fun k hk' => ?_
  refine g_seq ?_
  refine g_region ?_
  refine g_pure (p_lss rfl rfl) rfl ?_
  refine g_nil ?_
  refine g_qt ?_
  refine g_seq ?_
  refine g_ifd rfl (fun h1 => ?_) (fun h1 => ?_)
  · have hkl : m + k < S.length := by omega
    obtain ⟨q1, q2⟩ := rows_at encG 2 encG_len S (m + k) hkl
    rw [← hc4] at q1 q2
    obtain ⟨⟨x, y, z⟩, hg⟩ : ∃ q, S[m + k] = q := ⟨_, rfl⟩
    have hsub : sub cur (m * 2 + (k : Int).toNat * 2) 2 = some [.int .i64 x, .int .i64 y] := by
      refine sub_take (N := S.length * 2) ?_
      unfold sub
      rw [hg] at q1
      rw [if_pos (by rw [Int.toNat_natCast, ← Nat.add_mul]; exact q2), Int.toNat_natCast, ← Nat.add_mul, q1]; rfl
    have hu : dropKey (undoK kn ((S.drop m).take k)) (x, y) = undoK kn ((S.drop m).take (k + 1)) := by
      have : (S.drop m)[k]? = some (x, y, z) := by rw [List.getElem?_drop, List.getElem?_eq_getElem hkl, hg]
      rw [List.take_add_one, this]
      simp [undoK]
    refine g_skip ?_
    refine g_qt ?_
    refine g_seq ?_
    refine g_block ?_
    refine g_seq ?_
    refine g_region ?_
    refine g_pure (p_indexAddr rfl rfl (by omega) had) rfl ?_
    refine g_pure (p_loadN (by rfl) rfl (Has.own (by repeat' (first | exact Take.here | apply Take.there))) hsub) rfl ?_
    refine g_eff (e_alloc (by rfl)) rfl (fun _ _ => ?_)
    rintro ⟨b5, rfl, rfl⟩
    first | refine g_eff0 (e_storeO rfl rfl (by rfl) (by rfl) (by rfl) (by repeat' (first | exact Take.here | apply Take.there)) (by rfl)) (fun _ _ => ?_) | refine g_eff0 (e_storeN rfl rfl (by rfl) (by rfl) (by rfl) (by repeat' (first | exact Take.here | apply Take.there)) (by simp)) (fun _ _ => ?_)
    rintro rfl
    refine g_nil ?_
    refine g_qt ?_
    refine m_begin0 (.fl 0 0 (.fl 1 0 (.fl 2 0 (.fl 3 1 (.fl 4 1 (.ef 5 .done)))))) (by kernel_rfl) (by kernel_rfl) ?_
    refine m_float0 rfl (fun _ _ => p_move rfl) rfl ?_
    refine m_float0 rfl (fun _ _ => p_nilCheck rfl) rfl ?_
    refine m_float0 rfl (fun _ _ => p_fieldAddr rfl) rfl ?_
    refine m_float rfl (p_load (by rfl) rfl (by first | (apply Has.own; (repeat' (first | exact Take.here | apply Take.there)); done) | exact Has.ro (by assumption)) (by first | rfl | assumption)) rfl ?_
    first | refine m_float rfl (p_loadO (by rfl) rfl (by first | (apply Has.own; (repeat' (first | exact Take.here | apply Take.there)); done) | exact Has.ro (by assumption)) (by rfl)) rfl ?_ | refine m_float rfl (p_loadN (by rfl) rfl (by first | (apply Has.own; (repeat' (first | exact Take.here | apply Take.there)); done) | exact Has.ro (by assumption)) (by first | rfl | assumption)) rfl ?_
    refine m_eff0 rfl (e_delete (k := (x, y)) keyGate rfl rfl (by repeat' (first | exact Take.here | apply Take.there))) (fun _ _ => ?_)
    rintro rfl
    refine ⟨.none (by kernel_rfl), ?_⟩
    refine m_nil ?_
    refine g_qb ?_
    refine g_qt ?_
    refine g_region ?_
    first | refine g_pure (p_addi rfl rfl (by omega)) rfl ?_ | refine g_pure (p_add rfl rfl) rfl ?_
    refine g_pure (p_move rfl) rfl ?_
    refine g_nil ?_
    refine g_qn ?_
    rw [hu]
    exact g_next (k + 1) (by (repeat (first | exact trivial | refine ⟨by rfl, ?_⟩)); done) (by repeat' (first | exact Cover.nil | exact Take.here | apply Cover.cons | apply Take.there)) (by omega) (by omega)
  · have hu : undoK kn ((S.drop m).take k) = undoK kn (S.drop m) := by rw [List.take_of_length_le]; simp; omega
    refine g_exit ?_
    refine g_qt_exit ?_
    refine g_qn_exit ?_
    refine g_qb_exit ?_
    refine g_qt ?_
    refine g_region ?_
    refine g_pure (p_move rfl) rfl ?_
    refine g_pure (p_move rfl) rfl ?_
    refine g_pure (p_nilCheck rfl) rfl ?_
    refine g_pure (p_fieldAddr rfl) rfl ?_
    refine g_pure (p_load (by rfl) rfl (by first | (apply Has.own; (repeat' (first | exact Take.here | apply Take.there)); done) | exact Has.ro (by assumption)) (by first | rfl | assumption)) rfl ?_
    refine g_pure (p_move rfl) rfl ?_
    refine g_pure (p_sliceh rfl rfl (by omega)) rfl ?_
    refine g_pure (p_nilCheck rfl) rfl ?_
    refine g_pure (p_fieldAddr rfl) rfl ?_
    first | refine g_eff0 (e_storeO rfl rfl (by rfl) (by rfl) (by rfl) (by repeat' (first | exact Take.here | apply Take.there)) (by rfl)) (fun _ _ => ?_) | refine g_eff0 (e_store1 (by rfl) rfl rfl rfl (by repeat' (first | exact Take.here | apply Take.there)) (by first | decide | (simp <;> omega) | omega)) (fun _ _ => ?_)
    rintro rfl
    refine g_nil ?_
    rw [hu]
    refine g_fold (k := m) (cap := cv) (xs := (S.take m).flatMap encG) (.there .here) (by omega) hc2 hc3 (by rw [← rows_take encG 2 encG_len S m hm, ← hc4, List.take_take, Nat.min_eq_left (by omega)]) ?_
    refine gr_close (hw.cut h0) (hk.cut hw h0) (by repeat' (first | exact Cover.nil | exact Take.here | apply Cover.cons | apply Take.there)) (by rw [List.length_take]; omega) (by rw [hi]) rfl (by rw [hi]) ?_
    exact g_postn (rs := []) rfl .nil ⟨rfl, rfl⟩ (by repeat' (first | exact Cover.nil | exact Take.here | apply Cover.cons | apply Take.there))

theorem and0_has {S : St} {a b : Int} (ha : has S a) (hb : has S b) (h : (and0 S a b).2.1 = 0) : has (and0 S a b).2.2 (and0 S a b).1 := by
  rcases and0_spec ha hb with h1 | h1
  · exact h1.2.2
  · omega
theorem and0_err {S : St} {a b : Int} (ha : has S a) (hb : has S b) (h : ¬ (and0 S a b).2.1 = 0) : (and0 S a b).2.2 = S := by
  rcases and0_spec ha hb with h1 | h1
  · exact absurd h1.1 h
  · exact h1.2.1

theorem either_ok {ρ : Nat → Obj → Prop} (p : Nat) (S : St) (a b c d : Int) (ha : has S a) (hb : has S b) (hc : has S c) (hd : has S d) :
    Con Try.prog ρ 132 #[.pointer (some ⟨p, 0, none⟩), .int .i64 a, .int .i64 b, .int .i64 c, .int .i64 d] [Gr p S] (fun v H => v = .tuple #[.int .i64 (two S a b c d).1, .int .i64 (two S a b c d).2.1] ∧ H = [Gr p (two S a b c d).2.2]) := by
  refine con_intro Try.func132 Try.call132 rfl Try.ntmps132 rfl (L := [(0, _), (1, _), (2, _), (3, _), (4, _)]) rfl fun w hh => ?_
  refine gr_wf .here fun hw0 => ?_
  refine g_open .here ?_
  rintro _ ⟨av, cv, ai, ci, mb, kn, rfl, hw, hk⟩
  have hlim := hw.lim
  refine g_seq ?_
  refine g_region ?_
  refine g_pure (p_assign rfl) rfl ?_
  refine g_pure (p_assign rfl) rfl ?_
  refine g_nil ?_
  refine g_qt ?_
  refine g_seq ?_
  refine g_region ?_
  refine g_pure (p_move rfl) rfl ?_
  refine g_pure (p_nilCheck rfl) rfl ?_
  refine g_pure (p_fieldAddr rfl) rfl ?_
  refine g_pure (p_load (by rfl) rfl (by first | (apply Has.own; (repeat' (first | exact Take.here | apply Take.there)); done) | exact Has.ro (by assumption)) (by first | rfl | assumption)) rfl ?_
  refine g_pure (p_len (by rfl) rfl) rfl ?_
  refine g_pure (p_assign rfl) rfl ?_
  refine g_nil ?_
  refine g_qt ?_
  refine g_seq ?_
  refine g_region ?_
  refine g_pure (p_move rfl) rfl ?_
  refine g_pure (p_move rfl) rfl ?_
  refine g_pure (p_move rfl) rfl ?_
  refine gr_close hw hk (by repeat' (first | exact Cover.nil | exact Take.here | apply Cover.cons | apply Take.there)) rfl rfl rfl rfl ?_
  refine g_call (Hin := ?hi4) (Hr := ?hr4) (R := ?rr4) rfl rfl rfl ?hin4 ?hc4 ?hk4
  case hc4 => intro ρ' hρ hR; exact and0_ok p S a b ha hb
  case hin4 => repeat' (first | exact Cover.nil | exact Take.here | apply Cover.cons | apply Take.there)
  rintro _ _ ⟨rfl, rfl⟩
  refine g_pure (p_move rfl) rfl ?_
  refine g_pure (p_extract rfl rfl) rfl ?_
  refine g_pure (p_extract rfl rfl) rfl ?_
  refine g_pure (p_assign rfl) rfl ?_
  refine g_pure (p_assign rfl) rfl ?_
  refine g_nil ?_
  refine g_qt ?_
  refine g_seq ?_
  refine g_seq ?_
  refine g_region ?_
  refine g_pure (p_move rfl) rfl ?_
  refine g_pure (p_neq rfl rfl) rfl ?_
  refine g_nil ?_
  refine g_qt ?_
  refine g_ifnd rfl (fun h1 => ?_) (fun h1 => ?_)
  · refine g_seq ?_
    refine g_region ?_
    refine g_pure (p_move rfl) rfl ?_
    refine g_pure (p_assign rfl) rfl ?_
    refine g_pure (p_assign rfl) rfl ?_
    refine g_nil ?_
    refine g_qt ?_
    refine g_ret ?_
    refine g_qt_ret ?_
    have e : two S a b c d = (0, (and0 S a b).2.1, (and0 S a b).2.2) := by unfold two; exact if_pos h1
    exact g_post (rs := [.tmp 10, .tmp 11]) rfl (.tmp rfl (.tmp rfl .nil)) ⟨by rw [e]; rfl, by rw [e]⟩ (by repeat' (first | exact Cover.nil | exact Take.here | apply Cover.cons | apply Take.there))
  · refine g_skip ?_
    refine g_qt ?_
    refine g_seq ?_
    refine g_region ?_
    refine g_pure (p_move rfl) rfl ?_
    refine g_pure (p_move rfl) rfl ?_
    refine g_pure (p_move rfl) rfl ?_
    have x1 := (Ext.refl S).and0 ha hb
    have hr1 := and0_has ha hb h1
    have e1 : two S a b c d = (let q := and0 (and0 S a b).2.2 c d; if q.2.1 ≠ 0 then (0, q.2.1, S) else let z := and0 q.2.2 (nt (and0 S a b).1) (nt q.1); if z.2.1 ≠ 0 then (0, z.2.1, S) else (nt z.1, 0, z.2.2)) := by
      unfold two; exact if_neg (by simp only [ne_eq, Decidable.not_not]; exact h1)
    refine gr_wf .here fun hw1 => ?_
    have hx1 := nt_xor (and0 S a b).1 (by have := hw1.lim; have := hr1.1; have := hr1.2; omega)
    generalize and0 S a b = r1 at *
    obtain ⟨l1, f1, S1⟩ := r1
    simp only at h1 x1 hr1 hx1 e1 hw1
    subst h1
    refine g_call (Hin := ?hi5) (Hr := ?hr5) (R := ?rr5) rfl rfl rfl ?hin5 ?hc5 ?hk5
    case hc5 => intro ρ' hρ hR; exact and0_ok p S1 c d (x1.has hc) (x1.has hd)
    case hin5 => repeat' (first | exact Cover.nil | exact Take.here | apply Cover.cons | apply Take.there)
    rintro _ _ ⟨rfl, rfl⟩
    refine g_pure (p_move rfl) rfl ?_
    refine g_pure (p_extract rfl rfl) rfl ?_
    refine g_pure (p_extract rfl rfl) rfl ?_
    refine g_pure (p_assign rfl) rfl ?_
    refine g_pure (p_assign rfl) rfl ?_
    refine g_nil ?_
    refine g_qt ?_
    refine g_seq ?_
    refine g_region ?_
    refine g_pure (p_assign rfl) rfl ?_
    refine g_nil ?_
    refine g_qt ?_
    refine g_seq ?_
    refine g_seq ?_
    refine g_region ?_
    refine g_pure (p_move rfl) rfl ?_
    refine g_pure (p_eql rfl rfl) rfl ?_
    refine g_nil ?_
    refine g_qt ?_
    refine g_ifd rfl (fun h2 => ?_) (fun h2 => ?_)
    · refine g_region ?_
      refine g_pure (p_move rfl) rfl ?_
      refine g_pure (p_move rfl) rfl ?_
      have x2 := x1.and0 (x1.has hc) (x1.has hd)
      have x12 := (Ext.refl S1).and0 (x1.has hc) (x1.has hd)
      have hr2 := and0_has (x1.has hc) (x1.has hd) h2
      refine gr_wf .here fun hw2 => ?_
      have hx2 := nt_xor (and0 S1 c d).1 (by have := hw2.lim; have := hr2.1; have := hr2.2; omega)
      generalize and0 S1 c d = r2 at *
      obtain ⟨l2, f2, S2⟩ := r2
      simp only at h2 x2 x12 hr2 hx2 e1 hw2
      subst h2
      simp only [ne_eq, not_true_eq_false, if_false] at e1
      refine g_call (Hin := []) (Hr := ?hr6) (R := ?rr6) rfl rfl rfl ?hin6 ?hc6 ?hk6
      case hin6 => repeat' (first | exact Cover.nil | exact Take.here | apply Cover.cons | apply Take.there)
      case hc6 => intro ρ' hρ hR; exact not_ok l1
      rintro _ _ ⟨rfl, rfl⟩
      refine g_pure (p_move rfl) rfl ?_
      refine g_call (Hin := []) (Hr := ?hr7) (R := ?rr7) rfl rfl rfl ?hin7 ?hc7 ?hk7
      case hin7 => repeat' (first | exact Cover.nil | exact Take.here | apply Cover.cons | apply Take.there)
      case hc7 => intro ρ' hρ hR; exact not_ok l2
      rintro _ _ ⟨rfl, rfl⟩
      rw [hx1, hx2]
      have hh1 := nt_has (x12.has hr1)
      have hh2 := nt_has hr2
      refine g_call (Hin := ?hi8) (Hr := ?hr8) (R := ?rr8) rfl rfl rfl ?hin8 ?hc8 ?hk8
      case hc8 => intro ρ' hρ hR; exact and0_ok p S2 (nt l1) (nt l2) hh1 hh2
      case hin8 => repeat' (first | exact Cover.nil | exact Take.here | apply Cover.cons | apply Take.there)
      rintro _ _ ⟨rfl, rfl⟩
      refine g_pure (p_move rfl) rfl ?_
      refine g_pure (p_extract rfl rfl) rfl ?_
      refine g_pure (p_extract rfl rfl) rfl ?_
      refine g_pure (p_assign rfl) rfl ?_
      refine g_pure (p_assign rfl) rfl ?_
      refine g_nil ?_
      refine g_qt ?_
      refine g_seq ?_
      refine g_seq ?_
      refine g_region ?_
      refine g_pure (p_move rfl) rfl ?_
      refine g_pure (p_neq rfl rfl) rfl ?_
      refine g_nil ?_
      refine g_qt ?_
      have x3 := x2.and0 hh1 hh2
      refine g_ifnd rfl (fun h3 => ?_) (fun h3 => ?_)
      · refine g_seq ?_
        refine g_region ?_
        refine g_pure (p_move rfl) rfl ?_
        refine g_pure (p_move rfl) rfl ?_
        rw [if_pos h3] at e1
        have x3c := x3.cut
        refine g_call (Hin := ?hi9) (Hr := ?hr9) (R := ?rr9) rfl rfl rfl ?hin9 ?hc9 ?hk9
        case hc9 => intro ρ' hρ hR; exact undo_ok p _ S.length hw0.pos x3c.2.2 (by rw [x3c.1, x3c.2.1])
        case hin9 => repeat' (first | exact Cover.nil | exact Take.here | apply Cover.cons | apply Take.there)
        rintro _ _ ⟨rfl, rfl⟩
        refine g_nil ?_
        refine g_qt ?_
        refine g_seq ?_
        refine g_region ?_
        refine g_pure (p_move rfl) rfl ?_
        refine g_pure (p_assign rfl) rfl ?_
        refine g_pure (p_assign rfl) rfl ?_
        refine g_nil ?_
        refine g_qt ?_
        refine g_ret ?_
        refine g_qt_ret ?_
        rw [x3c.1]
        exact g_post (rs := [.tmp 10, .tmp 11]) rfl (.tmp rfl (.tmp rfl .nil)) ⟨by rw [e1]; rfl, by rw [e1]⟩ (by repeat' (first | exact Cover.nil | exact Take.here | apply Cover.cons | apply Take.there))
      · refine g_skip ?_
        refine g_qt ?_
        refine g_seq ?_
        refine g_region ?_
        refine g_pure (p_move rfl) rfl ?_
        rw [if_neg (fun h => h h3)] at e1
        have hr3 := and0_has hh1 hh2 h3
        refine gr_wf .here fun hw3 => ?_
        have hx3 := nt_xor (and0 S2 (nt l1) (nt l2)).1 (by have := hw3.lim; have := hr3.1; have := hr3.2; omega)
        refine g_call (Hin := []) (Hr := ?hr10) (R := ?rr10) rfl rfl rfl ?hin10 ?hc10 ?hk10
        case hin10 => repeat' (first | exact Cover.nil | exact Take.here | apply Cover.cons | apply Take.there)
        case hc10 => intro ρ' hρ hR; exact not_ok _
        rintro _ _ ⟨rfl, rfl⟩
        refine g_pure (p_assign rfl) rfl ?_
        refine g_pure (p_assign rfl) rfl ?_
        refine g_nil ?_
        refine g_qt ?_
        refine g_ret ?_
        exact g_post (rs := [.tmp 10, .tmp 11]) rfl (.tmp rfl (.tmp rfl .nil)) ⟨by rw [e1, hx3]; rfl, by rw [e1]⟩ (by repeat' (first | exact Cover.nil | exact Take.here | apply Cover.cons | apply Take.there))
    · refine g_skip ?_
      refine g_qt ?_
      refine g_seq ?_
      refine g_seq ?_
      refine g_region ?_
      refine g_pure (p_move rfl) rfl ?_
      refine g_pure (p_neq rfl rfl) rfl ?_
      refine g_nil ?_
      refine g_qt ?_
      have x2 := x1.and0 (x1.has hc) (x1.has hd)
      refine g_ifnd rfl (fun h3 => ?_) (fun h3 => ?_)
      · refine g_seq ?_
        refine g_region ?_
        refine g_pure (p_move rfl) rfl ?_
        refine g_pure (p_move rfl) rfl ?_
        have x2c := x2.cut
        refine g_call (Hin := ?hi11) (Hr := ?hr11) (R := ?rr11) rfl rfl rfl ?hin11 ?hc11 ?hk11
        case hc11 => intro ρ' hρ hR; exact undo_ok p _ S.length hw0.pos x2c.2.2 (by rw [x2c.1, x2c.2.1])
        case hin11 => repeat' (first | exact Cover.nil | exact Take.here | apply Cover.cons | apply Take.there)
        rintro _ _ ⟨rfl, rfl⟩
        refine g_nil ?_
        refine g_qt ?_
        refine g_seq ?_
        refine g_region ?_
        refine g_pure (p_move rfl) rfl ?_
        refine g_pure (p_assign rfl) rfl ?_
        refine g_pure (p_assign rfl) rfl ?_
        refine g_nil ?_
        refine g_qt ?_
        refine g_ret ?_
        refine g_qt_ret ?_
        rw [if_pos h2] at e1
        rw [x2c.1]
        exact g_post (rs := [.tmp 10, .tmp 11]) rfl (.tmp rfl (.tmp rfl .nil)) ⟨by rw [e1]; rfl, by rw [e1]⟩ (by repeat' (first | exact Cover.nil | exact Take.here | apply Cover.cons | apply Take.there))
      · exact absurd h3 h2

theorem xor_ok {ρ : Nat → Obj → Prop} (p : Nat) (S : St) (a b : Int) (ha : I64 a) (hb : I64 b) :
    Con Try.prog ρ 117 #[.pointer (some ⟨p, 0, none⟩), .int .i64 a, .int .i64 b] [Gr p S] (fun v H => v = .tuple #[.int .i64 (xor1 S a b).1, .int .i64 (xor1 S a b).2.1] ∧ H = [Gr p (xor1 S a b).2.2]) := by
  have hxa := nt_xor a ha
  have hxb := nt_xor b hb
  refine con_intro Try.func117 Try.call117 rfl Try.ntmps117 rfl (L := [(0, _), (1, _), (2, _)]) rfl fun w hh => ?_
  refine g_seq ?_
  refine g_region ?_
  refine g_pure (p_assign rfl) rfl ?_
  refine g_pure (p_assign rfl) rfl ?_
  refine g_nil ?_
  refine g_qt ?_
  refine g_seq ?_
  refine g_seq ?_
  refine g_region ?_
  refine g_pure (p_move rfl) rfl ?_
  refine g_pure (p_move rfl) rfl ?_
  refine g_pure (p_move rfl) rfl ?_
  refine g_eff (e_bs (xs := [.tmp 10, .tmp 11]) rfl rfl rfl (by rfl) (by rfl) rfl (by rfl)) rfl (fun _ _ => ?_)
  rintro ⟨b12, rfl, rfl⟩
  by_cases hy : hasB S a = true ∧ hasB S b = true
  · refine g_call (Hin := []) (Hr := ?hr12) (R := ?rr12) rfl rfl rfl ?hin12 ?hc12 ?hk12
    case hin12 => repeat' (first | exact Cover.nil | exact Take.here | apply Cover.cons | apply Take.there)
    case hc12 => intro ρ' hρ hR; exact ask_yes p S _ 2 [a, b] (.of_blk hR.1.blk (by simp)) (by simp) (by simp; exact ⟨ha, hb⟩) hR.2.1 (by simp [hy])
    rintro _ _ ⟨rfl, rfl⟩
    refine g_pure (p_assign rfl) rfl ?_
    refine g_nil ?_
    refine g_qt ?_
    refine g_seq ?_
    refine g_region ?_
    refine g_pure (p_move rfl) rfl ?_
    refine g_pure (p_neq rfl rfl) rfl ?_
    refine g_nil ?_
    refine g_qt ?_
    refine g_iff rfl ?_
    refine g_skip ?_
    refine g_qt ?_
    refine g_seq ?_
    refine g_region ?_
    refine g_pure (p_move rfl) rfl ?_
    refine g_pure (p_move rfl) rfl ?_
    refine g_pure (p_move rfl) rfl ?_
    refine g_call (Hin := []) (Hr := ?hr13) (R := ?rr13) rfl rfl rfl ?hin13 ?hc13 ?hk13
    case hin13 => repeat' (first | exact Cover.nil | exact Take.here | apply Cover.cons | apply Take.there)
    case hc13 => intro ρ' hρ hR; exact not_ok b
    rintro _ _ ⟨rfl, rfl⟩
    refine g_pure (p_move rfl) rfl ?_
    refine g_call (Hin := []) (Hr := ?hr14) (R := ?rr14) rfl rfl rfl ?hin14 ?hc14 ?hk14
    case hin14 => repeat' (first | exact Cover.nil | exact Take.here | apply Cover.cons | apply Take.there)
    case hc14 => intro ρ' hρ hR; exact not_ok a
    rintro _ _ ⟨rfl, rfl⟩
    refine g_pure (p_move rfl) rfl ?_
    rw [hxa, hxb]
    have h1 := hasB_iff.1 hy.1
    have h2 := hasB_iff.1 hy.2
    refine g_call (Hin := ?hi15) (Hr := ?hr15) (R := ?rr15) rfl rfl rfl ?hin15 ?hc15 ?hk15
    case hc15 => intro ρ' hρ hR; exact either_ok p S a (nt b) (nt a) b h1 (nt_has h2) (nt_has h1) h2
    case hin15 => repeat' (first | exact Cover.nil | exact Take.here | apply Cover.cons | apply Take.there)
    rintro _ _ ⟨rfl, rfl⟩
    refine g_pure (p_extract rfl rfl) rfl ?_
    refine g_pure (p_extract rfl rfl) rfl ?_
    refine g_pure (p_assign rfl) rfl ?_
    refine g_pure (p_assign rfl) rfl ?_
    refine g_nil ?_
    refine g_qt ?_
    refine g_ret ?_
    have e : xor1 S a b = two S a (nt b) (nt a) b := by unfold xor1; rw [hy.1, hy.2]; rfl
    exact g_post (rs := [.tmp 6, .tmp 7]) rfl (.tmp rfl (.tmp rfl .nil)) ⟨by rw [e]; rfl, by rw [e]⟩ (by repeat' (first | exact Cover.nil | exact Take.here | apply Cover.cons | apply Take.there))
  · have e0 : (hasB S a && hasB S b) = false := by cases h1 : hasB S a <;> cases h2 : hasB S b <;> simp_all
    refine g_call (Hin := []) (Hr := ?hr16) (R := ?rr16) rfl rfl rfl ?hin16 ?hc16 ?hk16
    case hin16 => repeat' (first | exact Cover.nil | exact Take.here | apply Cover.cons | apply Take.there)
    case hc16 => intro ρ' hρ hR; exact ask_no p S _ 2 [a, b] (.of_blk hR.1.blk (by simp)) (by simp) (by simp; exact ⟨ha, hb⟩) hR.2.1 (by simpa using e0)
    rintro _ _ ⟨rfl, rfl⟩
    refine g_pure (p_assign rfl) rfl ?_
    refine g_nil ?_
    refine g_qt ?_
    refine g_seq ?_
    refine g_region ?_
    refine g_pure (p_move rfl) rfl ?_
    refine g_pure (p_neq rfl rfl) rfl ?_
    refine g_nil ?_
    refine g_qt ?_
    refine g_ift rfl ?_
    refine g_seq ?_
    refine g_region ?_
    refine g_pure (p_move rfl) rfl ?_
    refine g_pure (p_assign rfl) rfl ?_
    refine g_pure (p_assign rfl) rfl ?_
    refine g_nil ?_
    refine g_qt ?_
    refine g_ret ?_
    refine g_qt_ret ?_
    have e : xor1 S a b = (0, 14, S) := by unfold xor1; rw [e0]; rfl
    exact g_post (rs := [.tmp 6, .tmp 7]) rfl (.tmp rfl (.tmp rfl .nil)) ⟨by rw [e]; rfl, by rw [e]⟩ (by repeat' (first | exact Cover.nil | exact Take.here | apply Cover.cons | apply Take.there))

theorem mux_ok {ρ : Nat → Obj → Prop} (p : Nat) (S : St) (c a b : Int) (hc : I64 c) (ha : I64 a) (hb : I64 b) :
    Con Try.prog ρ 129 #[.pointer (some ⟨p, 0, none⟩), .int .i64 c, .int .i64 a, .int .i64 b] [Gr p S] (fun v H => v = .tuple #[.int .i64 (mux1 S c a b).1, .int .i64 (mux1 S c a b).2.1] ∧ H = [Gr p (mux1 S c a b).2.2]) := by
  have hxc := nt_xor c hc
  refine con_intro Try.func129 Try.call129 rfl Try.ntmps129 rfl (L := [(0, _), (1, _), (2, _), (3, _)]) rfl fun w hh => ?_
  refine g_seq ?_
  refine g_region ?_
  refine g_pure (p_assign rfl) rfl ?_
  refine g_pure (p_assign rfl) rfl ?_
  refine g_nil ?_
  refine g_qt ?_
  refine g_seq ?_
  refine g_seq ?_
  refine g_region ?_
  refine g_pure (p_move rfl) rfl ?_
  refine g_pure (p_move rfl) rfl ?_
  refine g_pure (p_move rfl) rfl ?_
  refine g_pure (p_move rfl) rfl ?_
  refine g_eff (e_bs (xs := [.tmp 12, .tmp 13, .tmp 14]) rfl rfl rfl (by rfl) (by rfl) rfl (by rfl)) rfl (fun _ _ => ?_)
  rintro ⟨b15, rfl, rfl⟩
  by_cases hy : hasB S c = true ∧ hasB S a = true ∧ hasB S b = true
  · refine g_call (Hin := []) (Hr := ?hr17) (R := ?rr17) rfl rfl rfl ?hin17 ?hc17 ?hk17
    case hin17 => repeat' (first | exact Cover.nil | exact Take.here | apply Cover.cons | apply Take.there)
    case hc17 => intro ρ' hρ hR; exact ask_yes p S _ 3 [c, a, b] (.of_blk hR.1.blk (by simp)) (by simp) (by simp; exact ⟨hc, ha, hb⟩) hR.2.1 (by simp [hy])
    rintro _ _ ⟨rfl, rfl⟩
    refine g_pure (p_assign rfl) rfl ?_
    refine g_nil ?_
    refine g_qt ?_
    refine g_seq ?_
    refine g_region ?_
    refine g_pure (p_move rfl) rfl ?_
    refine g_pure (p_neq rfl rfl) rfl ?_
    refine g_nil ?_
    refine g_qt ?_
    refine g_iff rfl ?_
    refine g_skip ?_
    refine g_qt ?_
    refine g_seq ?_
    refine g_region ?_
    refine g_pure (p_move rfl) rfl ?_
    refine g_pure (p_move rfl) rfl ?_
    refine g_pure (p_move rfl) rfl ?_
    refine g_pure (p_move rfl) rfl ?_
    refine g_call (Hin := []) (Hr := ?hr18) (R := ?rr18) rfl rfl rfl ?hin18 ?hc18 ?hk18
    case hin18 => repeat' (first | exact Cover.nil | exact Take.here | apply Cover.cons | apply Take.there)
    case hc18 => intro ρ' hρ hR; exact not_ok c
    rintro _ _ ⟨rfl, rfl⟩
    refine g_pure (p_move rfl) rfl ?_
    rw [hxc]
    have h0 := hasB_iff.1 hy.1
    have h1 := hasB_iff.1 hy.2.1
    have h2 := hasB_iff.1 hy.2.2
    refine g_call (Hin := ?hi19) (Hr := ?hr19) (R := ?rr19) rfl rfl rfl ?hin19 ?hc19 ?hk19
    case hc19 => intro ρ' hρ hR; exact either_ok p S c a (nt c) b h0 h1 (nt_has h0) h2
    case hin19 => repeat' (first | exact Cover.nil | exact Take.here | apply Cover.cons | apply Take.there)
    rintro _ _ ⟨rfl, rfl⟩
    refine g_pure (p_extract rfl rfl) rfl ?_
    refine g_pure (p_extract rfl rfl) rfl ?_
    refine g_pure (p_assign rfl) rfl ?_
    refine g_pure (p_assign rfl) rfl ?_
    refine g_nil ?_
    refine g_qt ?_
    refine g_ret ?_
    have e : mux1 S c a b = two S c a (nt c) b := by unfold mux1; rw [hy.1, hy.2.1, hy.2.2]; rfl
    exact g_post (rs := [.tmp 8, .tmp 9]) rfl (.tmp rfl (.tmp rfl .nil)) ⟨by rw [e]; rfl, by rw [e]⟩ (by repeat' (first | exact Cover.nil | exact Take.here | apply Cover.cons | apply Take.there))
  · have e0 : (hasB S c && (hasB S a && hasB S b)) = false := by cases h0 : hasB S c <;> cases h1 : hasB S a <;> cases h2 : hasB S b <;> simp_all
    refine g_call (Hin := []) (Hr := ?hr20) (R := ?rr20) rfl rfl rfl ?hin20 ?hc20 ?hk20
    case hin20 => repeat' (first | exact Cover.nil | exact Take.here | apply Cover.cons | apply Take.there)
    case hc20 => intro ρ' hρ hR; exact ask_no p S _ 3 [c, a, b] (.of_blk hR.1.blk (by simp)) (by simp) (by simp; exact ⟨hc, ha, hb⟩) hR.2.1 (by simpa using e0)
    rintro _ _ ⟨rfl, rfl⟩
    refine g_pure (p_assign rfl) rfl ?_
    refine g_nil ?_
    refine g_qt ?_
    refine g_seq ?_
    refine g_region ?_
    refine g_pure (p_move rfl) rfl ?_
    refine g_pure (p_neq rfl rfl) rfl ?_
    refine g_nil ?_
    refine g_qt ?_
    refine g_ift rfl ?_
    refine g_seq ?_
    refine g_region ?_
    refine g_pure (p_move rfl) rfl ?_
    refine g_pure (p_assign rfl) rfl ?_
    refine g_pure (p_assign rfl) rfl ?_
    refine g_nil ?_
    refine g_qt ?_
    refine g_ret ?_
    refine g_qt_ret ?_
    have e : mux1 S c a b = (0, 14, S) := by unfold mux1; rw [e0]; rfl
    exact g_post (rs := [.tmp 8, .tmp 9]) rfl (.tmp rfl (.tmp rfl .nil)) ⟨by rw [e]; rfl, by rw [e]⟩ (by repeat' (first | exact Cover.nil | exact Take.here | apply Cover.cons | apply Take.there))

theorem input_ok {ρ : Nat → Obj → Prop} (p : Nat) (S : St) :
    Con Try.prog ρ 12 #[.pointer (some ⟨p, 0, none⟩)] [Gr p S] (fun v H => v = .tuple #[.int .i64 (input1 S).1, .int .i64 (input1 S).2.1] ∧ H = [Gr p (input1 S).2.2]) := by
  refine con_intro Try.func12 Try.call12 rfl Try.ntmps12 rfl (L := [(0, _)]) rfl fun w hh => ?_
  refine g_open .here ?_
  rintro _ ⟨av, cv, ai, ci, mb, kn, rfl, hw, hk⟩
  have hlim := hw.lim
  have hil : (ins 0 S).length ≤ 131072 := by
    have : ∀ (l : List Gt) (i : Nat), (ins i l).length ≤ l.length := by
      intro l
      induction l with
      | nil => intro i; simp [ins]
      | cons g l ih => intro i; simp only [ins]; split <;> simp <;> have := ih (i + 1) <;> omega
    have := this S 0; omega
  refine g_seq ?_
  refine g_region ?_
  refine g_pure (p_assign rfl) rfl ?_
  refine g_pure (p_assign rfl) rfl ?_
  refine g_nil ?_
  refine g_qt ?_
  refine g_seq ?_
  refine g_seq ?_
  refine g_region ?_
  refine g_pure (p_move rfl) rfl ?_
  refine g_pure (p_eqnil (by rfl) rfl rfl) rfl ?_
  refine g_nil ?_
  refine g_qt ?_
  refine g_iff rfl ?_
  refine g_skip ?_
  refine g_qt ?_
  refine g_seq ?_
  refine g_region ?_
  refine g_pure (p_move rfl) rfl ?_
  refine g_pure (p_build (by rfl) rfl (by rfl)) rfl ?_
  refine g_call (Hin := ?hi21) (Hr := ?hr21) (R := ?rr21) rfl rfl rfl ?hin21 ?hc21 ?hk21
  case hc21 => intro ρ' hρ hR; exact add_ok p av S.length cv (.slice ai (ins 0 S).length ci) (.map (some mb)) (S.flatMap encG) 0 0 hw.lim
  case hin21 => repeat' (first | exact Cover.nil | exact Take.here | apply Cover.cons | apply Take.there)
  rintro _ _ (⟨hl, rfl, rfl⟩ | ⟨hl, av', cv', rfl, rfl⟩)
  · refine g_pure (p_move rfl) rfl ?_
    refine g_pure (p_extract rfl rfl) rfl ?_
    refine g_pure (p_extract rfl rfl) rfl ?_
    refine g_pure (p_assign rfl) rfl ?_
    refine g_pure (p_assign rfl) rfl ?_
    refine g_nil ?_
    refine g_qt ?_
    refine g_seq ?_
    refine g_seq ?_
    refine g_region ?_
    refine g_pure (p_move rfl) rfl ?_
    refine g_pure (p_eql rfl rfl) rfl ?_
    refine g_nil ?_
    refine g_qt ?_
    refine g_iff rfl ?_
    refine g_skip ?_
    refine g_qt ?_
    refine g_seq ?_
    refine g_region ?_
    refine g_pure (p_move rfl) rfl ?_
    refine g_pure (p_move rfl) rfl ?_
    refine g_pure (p_assign rfl) rfl ?_
    refine g_pure (p_assign rfl) rfl ?_
    refine g_nil ?_
    refine g_qt ?_
    refine g_ret ?_
    have e : input1 S = (0, 3, S) := if_pos hl
    refine gr_close hw hk (by repeat' (first | exact Cover.nil | exact Take.here | apply Cover.cons | apply Take.there)) rfl rfl rfl rfl ?_
    exact g_post (rs := [.tmp 2, .tmp 3]) rfl (.tmp rfl (.tmp rfl .nil)) ⟨by rw [e]; rfl, by rw [e]⟩ (by repeat' (first | exact Cover.nil | exact Take.here | apply Cover.cons | apply Take.there))
  · refine g_pure (p_move rfl) rfl ?_
    refine g_pure (p_extract rfl rfl) rfl ?_
    refine g_pure (p_extract rfl rfl) rfl ?_
    refine g_pure (p_assign rfl) rfl ?_
    refine g_pure (p_assign rfl) rfl ?_
    refine g_nil ?_
    refine g_qt ?_
    refine g_seq ?_
    refine g_seq ?_
    refine g_region ?_
    refine g_pure (p_move rfl) rfl ?_
    refine g_pure (p_eql rfl rfl) rfl ?_
    refine g_nil ?_
    refine g_qt ?_
    refine g_ift rfl ?_
    refine g_region ?_
    refine g_pure (p_move rfl) rfl ?_
    refine g_pure (p_move rfl) rfl ?_
    refine g_pure (p_nilCheck rfl) rfl ?_
    refine g_pure (p_fieldAddr rfl) rfl ?_
    refine g_pure (p_load (by rfl) rfl (by first | (apply Has.own; (repeat' (first | exact Take.here | apply Take.there)); done) | exact Has.ro (by assumption)) (by first | rfl | assumption)) rfl ?_
    refine g_pure (p_move rfl) rfl ?_
    refine g_eff (e_bs (xs := [.tmp 21]) rfl rfl rfl (by rfl) (by rfl) rfl (by rfl)) rfl (fun _ _ => ?_)
    rintro ⟨b22, rfl, rfl⟩
    refine g_eff (e_appendO (by rfl) (by rfl) rfl rfl (by first | (apply Has.own; (repeat' (first | exact Take.here | apply Take.there)); done) | exact Has.ro (by assumption)) (by rfl) (by rfl) (by repeat' (first | exact Take.here | apply Take.there)) (by omega) (by first | omega | (dsimp only; omega) | (simp <;> omega)) (by omega)) rfl (fun _ _ => ?_)
    rintro ⟨a23, c23, rfl, rfl⟩
    refine g_pure (p_nilCheck rfl) rfl ?_
    refine g_pure (p_fieldAddr rfl) rfl ?_
    first | refine g_eff0 (e_storeO rfl rfl (by rfl) (by rfl) (by rfl) (by repeat' (first | exact Take.here | apply Take.there)) (by rfl)) (fun _ _ => ?_) | refine g_eff0 (e_store1 (by rfl) rfl rfl rfl (by repeat' (first | exact Take.here | apply Take.there)) (by first | decide | (simp <;> omega) | omega)) (fun _ _ => ?_)
    rintro rfl
    refine g_nil ?_
    refine g_qt ?_
    refine g_seq ?_
    refine g_region ?_
    refine g_pure (p_move rfl) rfl ?_
    refine g_pure (p_move rfl) rfl ?_
    refine g_pure (p_assign rfl) rfl ?_
    refine g_pure (p_assign rfl) rfl ?_
    refine g_nil ?_
    refine g_qt ?_
    refine g_ret ?_
    have e : input1 S = (2 * (S.length : Int), 0, S ++ [(0, 0, true)]) := if_neg (by omega)
    refine gr_close (hw.input hl) (hk.input hw.pos) (by repeat' (first | exact Cover.nil | exact Take.here | apply Cover.cons | apply Take.there)) (by simp) (by rw [ins_append]; simp [ins]) (by simp [encG]) (by rw [ins_append]; simp [ins, encI]) ?_
    exact g_post (rs := [.tmp 2, .tmp 3]) rfl (.tmp rfl (.tmp rfl .nil)) ⟨by rw [e]; rfl, by rw [e]⟩ (by repeat' (first | exact Cover.nil | exact Take.here | apply Cover.cons | apply Take.there))

theorem new_ok {ρ : Nat → Obj → Prop} : Con Try.prog ρ 11 #[] [] (fun v H => ∃ p, v = .pointer (some ⟨p, 0, none⟩) ∧ H = [Gr p [(0, 0, false)]]) := by
  refine con_intro Try.func11 Try.call11 rfl Try.ntmps11 rfl (L := []) rfl fun w hh => ?_
  refine g_seq ?_
  refine g_region ?_
  refine g_pure (p_assign rfl) rfl ?_
  refine g_nil ?_
  refine g_qt ?_
  refine g_seq ?_
  refine g_region ?_
  refine g_eff (e_makeN rfl rfl (by omega) (by decide) (by omega) (l := [.int .i64 0, .int .i64 0]) (by exact madeCells_eq 1 [.int .i64 0, .int .i64 0])) rfl (fun _ _ => ?_)
  rintro ⟨b1, rfl, rfl⟩
  refine g_eff (e_makeMap rfl) rfl (fun _ _ => ?_)
  rintro ⟨b2, rfl, rfl⟩
  refine g_pure (p_build (by rfl) rfl (by rfl)) rfl ?_
  refine g_eff (e_box rfl (by rfl)) rfl (fun _ _ => ?_)
  rintro ⟨b4, rfl, rfl⟩
  refine g_pure (p_assign rfl) rfl ?_
  refine g_nil ?_
  refine g_qt ?_
  refine g_ret ?_
  refine g_fold (k := 1) (cap := 1) (size := 2) (xs := [.int .i64 0, .int .i64 0]) (.there (.there .here)) (by omega) (by omega) rfl rfl ?_
  refine g_ownnil (e := 27) (size := 1) ?_
  refine g_weak (B := MapB encK b2 []) (.there (.there (.there .here))) (fun k hk => ⟨#[], 0, rfl, hk⟩) ?_
  refine gr_close (p := b4) WF.new KN.new (by repeat' (first | exact Cover.nil | exact Take.here | apply Cover.cons | apply Take.there)) rfl rfl rfl rfl ?_
  exact g_post (rs := [.tmp 0]) rfl (.tmp rfl .nil) ⟨b4, rfl, rfl⟩ (by repeat' (first | exact Cover.nil | exact Take.here | apply Cover.cons | apply Take.there))

theorem glen_ok {ρ : Nat → Obj → Prop} (p : Nat) (S : St) (hg : Ro ρ (Gr p S)) : Con Try.prog ρ 28 #[.pointer (some ⟨p, 0, none⟩)] [] (fun v H => v = .int .i64 S.length ∧ H = []) := by
  obtain ⟨av, cv, ai, ci, mb, kn, hp, hv, hi, hm, hw, hk⟩ := gr_ro hg
  refine con_intro Try.func28 Try.call28 rfl Try.ntmps28 rfl (L := [(0, _)]) rfl fun w hh => ?_
  refine g_seq ?_
  refine g_region ?_
  refine g_pure (p_assign rfl) rfl ?_
  refine g_nil ?_
  refine g_qt ?_
  refine g_seq ?_
  refine g_seq ?_
  refine g_region ?_
  refine g_pure (p_move rfl) rfl ?_
  refine g_pure (p_eqnil (by rfl) rfl rfl) rfl ?_
  refine g_nil ?_
  refine g_qt ?_
  refine g_iff rfl ?_
  refine g_skip ?_
  refine g_qt ?_
  refine g_seq ?_
  refine g_region ?_
  refine g_pure (p_move rfl) rfl ?_
  refine g_pure (p_nilCheck rfl) rfl ?_
  refine g_pure (p_fieldAddr rfl) rfl ?_
  refine g_pure (p_load (by rfl) rfl (by first | (apply Has.own; (repeat' (first | exact Take.here | apply Take.there)); done) | exact Has.ro (by assumption)) (by first | rfl | assumption)) rfl ?_
  refine g_pure (p_len (by rfl) rfl) rfl ?_
  refine g_pure (p_assign rfl) rfl ?_
  refine g_nil ?_
  refine g_qt ?_
  refine g_ret ?_
  exact g_post (rs := [.tmp 2]) rfl (.tmp rfl .nil) ⟨rfl, rfl⟩ .nil
end Go.Proofs.Ytkebblmmgcgjkaa
