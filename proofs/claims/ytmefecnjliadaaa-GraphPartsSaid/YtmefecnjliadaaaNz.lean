/- Chapter 4, the document: whether a graph is right; successors. Conditions: none. -/
import Derived.Test.YtmefecnjliadaaaN7
namespace Go.Z.Gr
set_option maxRecDepth 8000
set_option linter.unusedVariables false
set_option linter.unusedSimpArgs false
set_option linter.unusedSectionVars false
open Go Go.Z
def inE (n : Int) (e : Int × Int) : Bool := inV n e.1 && inV n e.2
theorem validP_bad {n : Int} {E : Ed} {k : Nat} (hk : k < E.length) (h : ¬ ((0 ≤ E[k].1 ∧ E[k].1 < n) ∧ 0 ≤ E[k].2 ∧ E[k].2 < n)) : validP n E [] = false := by
  cases hv : validP n E [] with
  | false => rfl
  | true =>
    unfold validP at hv
    rw [Bool.and_eq_true, Bool.and_eq_true] at hv
    have := List.all_eq_true.1 hv.1.2 _ (List.getElem_mem hk)
    unfold inV at this
    rw [Bool.and_eq_true, decide_eq_true_iff, decide_eq_true_iff] at this
    exact absurd this h
theorem validP_good {n : Int} {E : Ed} (h1 : 0 ≤ n ∧ n ≤ 4096) (h2 : (E.all fun e => inV n e.1 && inV n e.2) = true) : validP n E [] = true := by
  unfold validP
  rw [decide_eq_true h1, h2]; rfl
end Go.Z.Gr
namespace Go.Proofs.Ytmefecnjliadaaa
set_option maxRecDepth 8000
set_option linter.unusedVariables false
set_option linter.unusedSimpArgs false
set_option linter.unusedSectionVars false
open Go Go.Z Go.Z.Gr
theorem right_ok {ρ : Nat → Obj → Prop} (n : Int) (a : Option Addr) (c : Nat) (E : Ed) (hE : EdR ρ a E) (hlE : E.length ≤ 9223372036854775807) :
    Con Try.prog ρ 28 #[.int .i64 n, .slice a E.length c] [] (fun r H => r = .bool (validP n E []) ∧ H = []) := by
  refine con_intro Try.func28 Try.call28 rfl Try.ntmps28 rfl (L := [(0, _), (1, _)]) rfl fun w hh => ?_
  refine g_seq ?_
  refine g_region ?_
  refine g_pure (p_assign rfl) rfl ?_
  refine g_nil ?_
  refine g_qt ?_
  refine g_seq ?_
  refine g_seq ?_
  refine g_region ?_
  refine g_pure (p_move rfl) rfl ?_
  refine g_pure (p_lss rfl rfl) rfl ?_
  refine g_pure (p_move rfl) rfl ?_
  refine g_splitd rfl rfl (fun h1 => ?_) (fun h1 => ?_)
  · refine g_no rfl rfl rfl rfl ?_
    refine g_no rfl rfl rfl rfl ?_
    first | refine g_pure (p_pickt rfl rfl) rfl ?_ | refine g_pure (p_pickf rfl rfl) rfl ?_
    refine g_nil ?_
    refine g_qt ?_
    refine g_ift rfl ?_
    refine g_seq ?_
    refine g_region ?_
    refine g_pure (p_assign rfl) rfl ?_
    refine g_nil ?_
    refine g_qt ?_
    refine g_ret ?_
    refine g_qt_ret ?_
    exact g_post (rs := [.tmp 4]) rfl (.tmp rfl .nil) ⟨show Value.bool false = _ by (unfold validP; rw [decide_eq_false (by omega)]; rfl), rfl⟩ .nil
  · refine g_yes rfl rfl ?_
    refine g_pure (p_move rfl) rfl ?_
    refine g_yes rfl rfl ?_
    refine g_pure (p_gtr rfl rfl) rfl ?_
    first | refine g_pure (p_pickt rfl rfl) rfl ?_ | refine g_pure (p_pickf rfl rfl) rfl ?_
    refine g_nil ?_
    refine g_qt ?_
    refine g_ifd rfl (fun h2 => ?_) (fun h2 => ?_)
    · refine g_seq ?_
      refine g_region ?_
      refine g_pure (p_assign rfl) rfl ?_
      refine g_nil ?_
      refine g_qt ?_
      refine g_ret ?_
      refine g_qt_ret ?_
      exact g_post (rs := [.tmp 4]) rfl (.tmp rfl .nil) ⟨show Value.bool false = _ by (unfold validP; rw [decide_eq_false (by omega)]; rfl), rfl⟩ .nil
    · refine g_skip ?_
      refine g_qt ?_
      refine g_seq ?_
      refine g_seq ?_
      refine g_region ?_
      refine g_pure (p_assign rfl) rfl ?_
      refine g_nil ?_
      refine g_qt ?_
      refine g_block ?_
      refine g_loop (fun k : Nat => [(0, .int .i64 n), (1, .slice a E.length c), (4, .bool false), (5, .int .i64 k)]) (fun _ => []) (fun k => k ≤ E.length ∧ ((E.take k).all fun e => inV n e.1 && inV n e.2) = true) (fun k => E.length - k) 0 ⟨Nat.zero_le _, rfl⟩ (by (repeat (first | exact trivial | refine ⟨by rfl, ?_⟩)); done) .nil ?_
      rintro k ⟨hk1, hk2⟩
      refine g_seq ?_
      refine g_seq ?_
      refine g_region ?_
      refine g_pure (p_move rfl) rfl ?_
      refine g_pure (p_move rfl) rfl ?_
      refine g_pure (p_len (by rfl) rfl) rfl ?_
      refine g_pure (p_lss rfl rfl) rfl ?_
      refine g_nil ?_
      refine g_qt ?_
      refine g_ifd rfl (fun q => ?_) (fun q => ?_)
      · have hka : k < E.length := by omega
        obtain ⟨be, oe, ce, Te, ze, i1, i2, i3⟩ := hE.at (by omega)
        obtain ⟨-, i4, i5⟩ := i3 k hka
        have hbad := validP_bad (n := n) hka
        have hall := all_take1 (fun e : Int × Int => inV n e.1 && inV n e.2) hka
        generalize E[k].1 = x at *
        generalize E[k].2 = y at *
        refine g_skip ?_
        refine g_qt ?_
        refine g_seq ?_
        refine g_block ?_
        refine g_seq ?_
        refine g_region ?_
        refine g_pure (p_move rfl) rfl ?_
        refine g_pure (p_move rfl) rfl ?_
        refine g_pure (p_indexAddr rfl rfl (by omega) (fun _ => i1)) rfl ?_
        refine g_pure (p_fieldAddr rfl) rfl ?_
        refine g_pure (p_load (by rfl) rfl (Has.ro i2) i4) rfl ?_
        refine g_pure (p_lss rfl rfl) rfl ?_
        refine g_pure (p_move rfl) rfl ?_
        refine g_splitd rfl rfl (fun g1 => ?_) (fun g1 => ?_)
        · refine g_no rfl rfl rfl rfl ?_
          refine g_no rfl rfl rfl rfl ?_
          refine g_no rfl rfl rfl rfl ?_
          refine g_no rfl rfl rfl rfl ?_
          refine g_no rfl rfl rfl rfl ?_
          refine g_no rfl rfl rfl rfl ?_
          refine g_no rfl rfl rfl rfl ?_
          first | refine g_pure (p_pickt rfl rfl) rfl ?_ | refine g_pure (p_pickf rfl rfl) rfl ?_
          refine g_pure (p_move rfl) rfl ?_
          refine g_no rfl rfl rfl rfl ?_
          refine g_no rfl rfl rfl rfl ?_
          refine g_no rfl rfl rfl rfl ?_
          refine g_no rfl rfl rfl rfl ?_
          refine g_no rfl rfl rfl rfl ?_
          refine g_no rfl rfl rfl rfl ?_
          first | refine g_pure (p_pickt rfl rfl) rfl ?_ | refine g_pure (p_pickf rfl rfl) rfl ?_
          refine g_pure (p_move rfl) rfl ?_
          refine g_no rfl rfl rfl rfl ?_
          refine g_no rfl rfl rfl rfl ?_
          refine g_no rfl rfl rfl rfl ?_
          refine g_no rfl rfl rfl rfl ?_
          refine g_no rfl rfl rfl rfl ?_
          refine g_no rfl rfl rfl rfl ?_
          refine g_no rfl rfl rfl rfl ?_
          first | refine g_pure (p_pickt rfl rfl) rfl ?_ | refine g_pure (p_pickf rfl rfl) rfl ?_
          refine g_nil ?_
          refine g_qt ?_
          refine g_ift rfl ?_
          refine g_seq ?_
          refine g_region ?_
          refine g_pure (p_assign rfl) rfl ?_
          refine g_nil ?_
          refine g_qt ?_
          refine g_ret ?_
          refine g_qb_ret ?_
          refine g_qt_ret ?_
          refine g_qn_ret ?_
          refine g_qb_ret ?_
          refine g_qt_ret ?_
          exact g_post (rs := [.tmp 4]) rfl (.tmp rfl .nil) ⟨show Value.bool false = _ by rw [hbad (by omega)], rfl⟩ .nil
        · refine g_yes rfl rfl ?_
          refine g_pure (p_move rfl) rfl ?_
          refine g_yes rfl rfl ?_
          refine g_pure (p_move rfl) rfl ?_
          refine g_yes rfl rfl ?_
          refine g_pure (p_indexAddr rfl rfl (by omega) (fun _ => i1)) rfl ?_
          refine g_yes rfl rfl ?_
          refine g_pure (p_fieldAddr rfl) rfl ?_
          refine g_yes rfl rfl ?_
          refine g_pure (p_load (by rfl) rfl (Has.ro i2) i4) rfl ?_
          refine g_yes rfl rfl ?_
          refine g_pure (p_move rfl) rfl ?_
          refine g_yes rfl rfl ?_
          refine g_pure (p_geq rfl rfl) rfl ?_
          first | refine g_pure (p_pickt rfl rfl) rfl ?_ | refine g_pure (p_pickf rfl rfl) rfl ?_
          refine g_pure (p_move rfl) rfl ?_
          refine g_splitd rfl rfl (fun g2 => ?_) (fun g2 => ?_)
          · refine g_no rfl rfl rfl rfl ?_
            refine g_no rfl rfl rfl rfl ?_
            refine g_no rfl rfl rfl rfl ?_
            refine g_no rfl rfl rfl rfl ?_
            refine g_no rfl rfl rfl rfl ?_
            refine g_no rfl rfl rfl rfl ?_
            first | refine g_pure (p_pickt rfl rfl) rfl ?_ | refine g_pure (p_pickf rfl rfl) rfl ?_
            refine g_pure (p_move rfl) rfl ?_
            refine g_no rfl rfl rfl rfl ?_
            refine g_no rfl rfl rfl rfl ?_
            refine g_no rfl rfl rfl rfl ?_
            refine g_no rfl rfl rfl rfl ?_
            refine g_no rfl rfl rfl rfl ?_
            refine g_no rfl rfl rfl rfl ?_
            refine g_no rfl rfl rfl rfl ?_
            first | refine g_pure (p_pickt rfl rfl) rfl ?_ | refine g_pure (p_pickf rfl rfl) rfl ?_
            refine g_nil ?_
            refine g_qt ?_
            refine g_ift rfl ?_
            refine g_seq ?_
            refine g_region ?_
            refine g_pure (p_assign rfl) rfl ?_
            refine g_nil ?_
            refine g_qt ?_
            refine g_ret ?_
            refine g_qb_ret ?_
            refine g_qt_ret ?_
            refine g_qn_ret ?_
            refine g_qb_ret ?_
            refine g_qt_ret ?_
            exact g_post (rs := [.tmp 4]) rfl (.tmp rfl .nil) ⟨show Value.bool false = _ by rw [hbad (by omega)], rfl⟩ .nil
          · refine g_yes rfl rfl ?_
            refine g_pure (p_move rfl) rfl ?_
            refine g_yes rfl rfl ?_
            refine g_pure (p_move rfl) rfl ?_
            refine g_yes rfl rfl ?_
            refine g_pure (p_indexAddr rfl rfl (by omega) (fun _ => i1)) rfl ?_
            refine g_yes rfl rfl ?_
            refine g_pure (p_fieldAddr rfl) rfl ?_
            refine g_yes rfl rfl ?_
            refine g_pure (p_load (by rfl) rfl (Has.ro i2) i5) rfl ?_
            refine g_yes rfl rfl ?_
            refine g_pure (p_lss rfl rfl) rfl ?_
            first | refine g_pure (p_pickt rfl rfl) rfl ?_ | refine g_pure (p_pickf rfl rfl) rfl ?_
            refine g_pure (p_move rfl) rfl ?_
            refine g_splitd rfl rfl (fun g3 => ?_) (fun g3 => ?_)
            · refine g_no rfl rfl rfl rfl ?_
              refine g_no rfl rfl rfl rfl ?_
              refine g_no rfl rfl rfl rfl ?_
              refine g_no rfl rfl rfl rfl ?_
              refine g_no rfl rfl rfl rfl ?_
              refine g_no rfl rfl rfl rfl ?_
              refine g_no rfl rfl rfl rfl ?_
              first | refine g_pure (p_pickt rfl rfl) rfl ?_ | refine g_pure (p_pickf rfl rfl) rfl ?_
              refine g_nil ?_
              refine g_qt ?_
              refine g_ift rfl ?_
              refine g_seq ?_
              refine g_region ?_
              refine g_pure (p_assign rfl) rfl ?_
              refine g_nil ?_
              refine g_qt ?_
              refine g_ret ?_
              refine g_qb_ret ?_
              refine g_qt_ret ?_
              refine g_qn_ret ?_
              refine g_qb_ret ?_
              refine g_qt_ret ?_
              exact g_post (rs := [.tmp 4]) rfl (.tmp rfl .nil) ⟨show Value.bool false = _ by rw [hbad (by omega)], rfl⟩ .nil
            · refine g_yes rfl rfl ?_
              refine g_pure (p_move rfl) rfl ?_
              refine g_yes rfl rfl ?_
              refine g_pure (p_move rfl) rfl ?_
              refine g_yes rfl rfl ?_
              refine g_pure (p_indexAddr rfl rfl (by omega) (fun _ => i1)) rfl ?_
              refine g_yes rfl rfl ?_
              refine g_pure (p_fieldAddr rfl) rfl ?_
              refine g_yes rfl rfl ?_
              refine g_pure (p_load (by rfl) rfl (Has.ro i2) i5) rfl ?_
              refine g_yes rfl rfl ?_
              refine g_pure (p_move rfl) rfl ?_
              refine g_yes rfl rfl ?_
              refine g_pure (p_geq rfl rfl) rfl ?_
              first | refine g_pure (p_pickt rfl rfl) rfl ?_ | refine g_pure (p_pickf rfl rfl) rfl ?_
              refine g_nil ?_
              refine g_qt ?_
              refine g_ifd rfl (fun g4 => ?_) (fun g4 => ?_)
              · refine g_seq ?_
                refine g_region ?_
                refine g_pure (p_assign rfl) rfl ?_
                refine g_nil ?_
                refine g_qt ?_
                refine g_ret ?_
                refine g_qb_ret ?_
                refine g_qt_ret ?_
                refine g_qn_ret ?_
                refine g_qb_ret ?_
                refine g_qt_ret ?_
                exact g_post (rs := [.tmp 4]) rfl (.tmp rfl .nil) ⟨show Value.bool false = _ by rw [hbad (by omega)], rfl⟩ .nil
              · refine g_skip ?_
                refine g_qb ?_
                refine g_qt ?_
                refine g_region ?_
                refine g_pure (p_move rfl) rfl ?_
                first | refine g_pure (p_addi rfl rfl (by omega)) rfl ?_ | refine g_pure (p_add rfl rfl) rfl ?_
                refine g_pure (p_assign rfl) rfl ?_
                refine g_nil ?_
                refine g_qn ?_
                exact g_next (k + 1) (by (repeat (first | exact trivial | refine ⟨by rfl, ?_⟩)); done) .nil ⟨by omega, by
                  rw [hall, hk2]
                  unfold inV
                  rw [decide_eq_true (by omega), decide_eq_true (by omega)]; rfl⟩ (by omega)
      · have hke : k = E.length := by omega
        rw [hke, List.take_length] at hk2
        refine g_exit ?_
        refine g_qt_exit ?_
        refine g_qn_exit ?_
        refine g_qb_exit ?_
        refine g_qt ?_
        refine g_seq ?_
        refine g_region ?_
        refine g_pure (p_assign rfl) rfl ?_
        refine g_nil ?_
        refine g_qt ?_
        refine g_ret ?_
        exact g_post (rs := [.tmp 4]) rfl (.tmp rfl .nil) ⟨by rw [validP_good (by omega) hk2]; rfl, rfl⟩ .nil
theorem next_ok {ρ : Nat → Obj → Prop} (n : Nat) (a : Option Addr) (c : Nat) (E : Ed) (hE : EdR ρ a E) (hlE : E.length ≤ 1000000) (hn : n ≤ 4096) (ho : EdOk n E) :
    Con Try.prog ρ 29 #[.int .i64 n, .slice a E.length c] [] (fun r H => ∃ a' c', r = .slice a' n c' ∧ H = [Own2 24 3 a' c' (rowsN n fun v => tosP E v)]) := by
  refine con_intro Try.func29 Try.call29 rfl Try.ntmps29 rfl (L := [(0, _), (1, _)]) rfl fun w hh => ?_
  refine g_seq ?_
  refine g_region ?_
  refine g_pure (p_assign rfl) rfl ?_
  refine g_nil ?_
  refine g_qt ?_
  refine g_seq ?_
  refine g_region ?_
  refine g_pure (p_move rfl) rfl ?_
  refine g_eff (e_make (by rfl) (by rfl) rfl rfl (by omega) (by first | omega | (dsimp only; omega)) (by omega)) rfl (fun _ _ => ?_)
  rintro ⟨b8, rfl, rfl⟩
  refine g_pure (p_assign rfl) rfl ?_
  refine g_nil ?_
  refine g_qt ?_
  refine g_seq ?_
  refine g_seq ?_
  refine g_region ?_
  refine g_pure (p_assign rfl) rfl ?_
  refine g_nil ?_
  refine g_qt ?_
  refine g_block ?_
  refine g_fold (k := n) (cap := n) (size := 1) (xs := List.replicate n (.slice none 0 0)) (g := b8) (cur := List.replicate n (.slice none 0 0)) (by rw [Int.toNat_natCast]; exact .here) (Nat.le_refl _) (by omega) (by simp) (by rw [Nat.mul_one, List.take_of_length_le (by simp)]) ?_
  refine g_nils (ei := 3) .here ?_
  rw [← rowsN_nil n, Int.toNat_natCast]
  refine g_loop (fun k : Nat => [(1, .slice a E.length c), (5, .slice (some ⟨b8, 0, none⟩) n n), (6, .int .i64 k)])
    (fun k => [Own2 24 3 (some ⟨b8, 0, none⟩) n (rowsN n fun v => tosP (E.take k) v)]) (fun k => k ≤ E.length) (fun k => E.length - k) 0 (Nat.zero_le _) (by (repeat (first | exact trivial | refine ⟨by rfl, ?_⟩)); done) (by repeat' (first | exact Cover.nil | exact Take.here | apply Cover.cons | apply Take.there)) fun k hk => ?_
  refine g_seq ?_
  refine g_seq ?_
  refine g_region ?_
  refine g_pure (p_move rfl) rfl ?_
  refine g_pure (p_move rfl) rfl ?_
  refine g_pure (p_len (by rfl) rfl) rfl ?_
  refine g_pure (p_lss rfl rfl) rfl ?_
  refine g_nil ?_
  refine g_qt ?_
  refine g_ifd rfl (fun q => ?_) (fun q => ?_)
  · have hk' : k < E.length := by omega
    obtain ⟨be, oe, ce, Te, ze, i1, i2, i3⟩ := hE.at (by omega)
    obtain ⟨-, i4, i5⟩ := i3 k hk'
    obtain ⟨⟨e1, e2⟩, e3, e4⟩ := ho _ (List.getElem_mem hk')
    have htk := take_snoc hk'
    have htl := tosP_len (E.take k) (E[k].1.toNat : Nat)
    have hkl : (E.take k).length = k := by simp; omega
    generalize hx : E[k].1 = x at *
    generalize hy : E[k].2 = y at *
    generalize hrows : (rowsN n fun v => tosP (E.take k) v) = rows at *
    have hrn : rows.length = n := by rw [← hrows, rowsN_len]
    have hxn : x.toNat < rows.length := by omega
    have hrj : rows[x.toNat] = (tosP (E.take k) (x.toNat : Nat)).map Z.encI := by subst hrows; exact rowsN_at _
    have hst : rows.set x.toNat (rows[x.toNat] ++ [.int .i64 y]) = rowsN n fun v => tosP (E.take (k + 1)) v := by
      subst hrows
      refine rowsN_set (by omega) (fun i _ hi => ?_) ?_
      · rw [htk, tosP_snoc, hx, if_neg (by omega), List.append_nil]
      · rw [hrj, htk, tosP_snoc, hx, if_pos (by omega), List.map_append, hy]; rfl
    have hrl : rows[x.toNat].length ≤ 1000000 := by rw [hrj, List.length_map]; omega
    refine g_rowO (j := x.toNat) (by repeat' (first | exact Take.here | apply Take.there)) hxn ?_
    rintro g cur ra rc hg g1 g2 g3 g4
    cases hg
    rw [hrn] at g1
    generalize hrr : rows[x.toNat] = row at *
    refine g_skip ?_
    refine g_qt ?_
    refine g_seq ?_
    refine g_block ?_
    refine m_begin (.fl 0 0 (.fl 1 0 (.fl 2 0 (.fl 3 0 (.fl 4 0 (.fl 5 1 (.fl 6 0 (.fl 7 0 (.fl 8 0 (.fl 9 0 (.fl 10 0 (.fl 11 1 (.fl 12 0 (.fl 13 1 (.fl 14 0 (.fl 15 0 (.fl 16 0 (.fl 17 0 (.fl 18 1 (.ef 19 (.ef 20 (.fl 21 0 (.ef 22 .done))))))))))))))))))))))) [Blk b8 (.cells cur.toArray 24 (0, 0))] (by kernel_rfl) (by kernel_rfl) (by repeat' (first | exact Cover.nil | exact Take.here | apply Cover.cons | apply Take.there)) ?_
    refine m_float0 rfl (fun _ _ => p_move rfl) rfl ?_
    refine m_float0 rfl (fun _ _ => p_move rfl) rfl ?_
    refine m_float0 rfl (fun _ _ => p_move rfl) rfl ?_
    refine m_float0 rfl (fun _ _ => p_indexAddr rfl rfl (by omega) (fun _ => i1)) rfl ?_
    refine m_float0 rfl (fun _ _ => p_fieldAddr rfl) rfl ?_
    refine m_float rfl (p_load (by rfl) rfl (Has.ro i2) i4) rfl ?_
    refine m_float0 rfl (fun _ _ => p_move rfl) rfl ?_
    refine m_float0 rfl (fun _ _ => p_move rfl) rfl ?_
    refine m_float0 rfl (fun _ _ => p_move rfl) rfl ?_
    refine m_float0 rfl (fun _ _ => p_indexAddr rfl rfl (by omega) (fun _ => i1)) rfl ?_
    refine m_float0 rfl (fun _ _ => p_fieldAddr rfl) rfl ?_
    refine m_float rfl (p_load (by rfl) rfl (Has.ro i2) i4) rfl ?_
    refine m_float0 rfl (fun _ _ => p_indexAddr rfl rfl (by omega) (fun _ => rfl)) rfl ?_
    refine m_float rfl (p_load (by rfl) rfl (Has.own (by repeat' (first | exact Take.here | apply Take.there))) g4) rfl ?_
    refine m_float0 rfl (fun _ _ => p_move rfl) rfl ?_
    refine m_float0 rfl (fun _ _ => p_move rfl) rfl ?_
    refine m_float0 rfl (fun _ _ => p_indexAddr rfl rfl (by omega) (fun _ => i1)) rfl ?_
    refine m_float0 rfl (fun _ _ => p_fieldAddr rfl) rfl ?_
    refine m_float rfl (p_load (by rfl) rfl (Has.ro i2) i5) rfl ?_
    refine m_eff rfl (e_bs (xs := [.tmp 33]) rfl rfl rfl (by rfl) (by rfl) rfl (by rfl)) rfl (fun _ _ => ?_)
    rintro ⟨b34, rfl, rfl⟩
    refine ⟨.some (by repeat' (first | exact Cover.nil | exact Take.here | apply Cover.cons | apply Take.there)), ?_⟩
    refine m_eff rfl (e_appendO (by rfl) (by rfl) rfl rfl (by first | (apply Has.own; (repeat' (first | exact Take.here | apply Take.there)); done) | exact Has.ro (by assumption)) (by rfl) (by rfl) (by repeat' (first | exact Take.here | apply Take.there)) (by omega) (by first | omega | (dsimp only; omega) | (simp <;> omega)) (by omega)) rfl (fun _ _ => ?_)
    rintro ⟨a35, c35, rfl, rfl⟩
    refine ⟨.some (by repeat' (first | exact Cover.nil | exact Take.here | apply Cover.cons | apply Take.there)), ?_⟩
    refine m_float0 rfl (fun _ _ => p_indexAddr rfl rfl (by omega) (fun _ => rfl)) rfl ?_
    first | refine m_eff0 rfl (e_storeO rfl rfl (by rfl) (by rfl) (by rfl) (by repeat' (first | exact Take.here | apply Take.there)) (by rfl)) (fun _ _ => ?_) | refine m_eff0 rfl (e_store1 (by rfl) rfl rfl rfl (by repeat' (first | exact Take.here | apply Take.there)) (by first | decide | (simp <;> omega) | omega)) (fun _ _ => ?_)
    rintro rfl
    refine ⟨.none (by kernel_rfl), ?_⟩
    refine m_nil ?_
    refine g_qb ?_
    refine g_qt ?_
    refine g_region ?_
    refine g_pure (p_move rfl) rfl ?_
    first | refine g_pure (p_addi rfl rfl (by omega)) rfl ?_ | refine g_pure (p_add rfl rfl) rfl ?_
    refine g_pure (p_assign rfl) rfl ?_
    refine g_nil ?_
    refine g_qn ?_
    refine g_rowC (j := x.toNat) (r := row ++ [.int .i64 y]) (a' := a35) (c' := c35) (eo := 24) (g := b8) (cap := n) hxn (by omega) (by omega) g3 (by repeat' (first | exact Take.here | apply Take.there)) (by simp only [List.length_append, List.length_singleton]; exact (by repeat' (first | exact Take.here | apply Take.there))) (by simp only [List.length_append, List.length_singleton]; exact (by repeat' (first | exact Take.here | apply Take.there))) ?_
    rw [hst]
    exact g_next (k + 1) (by (repeat (first | exact trivial | refine ⟨by rfl, ?_⟩)); done) (by repeat' (first | exact Cover.nil | exact Take.here | apply Cover.cons | apply Take.there)) (by omega) (by omega)
  · have hke : k = E.length := by omega
    rw [hke, List.take_of_length_le (Nat.le_refl _)]
    refine g_exit ?_
    refine g_qt_exit ?_
    refine g_qn_exit ?_
    refine g_qb_exit ?_
    refine g_qt ?_
    refine g_seq ?_
    refine g_region ?_
    refine g_pure (p_move rfl) rfl ?_
    refine g_pure (p_assign rfl) rfl ?_
    refine g_nil ?_
    refine g_qt ?_
    refine g_ret ?_
    exact g_post (rs := [.tmp 4]) rfl (.tmp rfl .nil) ⟨some ⟨b8, 0, none⟩, n, rfl, rfl⟩ (by repeat' (first | exact Cover.nil | exact Take.here | apply Cover.cons | apply Take.there))
end Go.Proofs.Ytmefecnjliadaaa
