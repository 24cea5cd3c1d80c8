/- Chapter 4: successors in order. Conditions: none. -/
import Derived.Test.YtmefecnjliadaaaN5
import Derived.Test.YtmefecnjliadaaaZp
namespace Go.Z.Gr
set_option maxRecDepth 8000
set_option linter.unusedVariables false
set_option linter.unusedSimpArgs false
set_option linter.unusedSectionVars false
open Go Go.Z Go.Sort
def rowsN (n : Nat) (f : Nat → List Int) : List (List Value) := (List.range n).map fun v => (f v).map encI
theorem rowsN_len (n : Nat) (f : Nat → List Int) : (rowsN n f).length = n := by simp [rowsN]
theorem rowsN_at {n : Nat} {f : Nat → List Int} {j : Nat} (h : j < (rowsN n f).length) : (rowsN n f)[j] = (f j).map encI := by simp [rowsN]
theorem rowsN_set {n : Nat} {f f' : Nat → List Int} {j : Nat} (hj : j < n) (h : ∀ i, i < n → i ≠ j → f' i = f i) {r : List Value} (hr : r = (f' j).map encI) : (rowsN n f).set j r = rowsN n f' := by
  subst hr
  refine List.ext_getElem (by rw [List.length_set, rowsN_len, rowsN_len]) fun i h1 h2 => ?_
  rw [rowsN_len] at h2
  rw [List.getElem_set, rowsN_at, rowsN_at]
  by_cases e : j = i
  · rw [if_pos e, e]
  · rw [if_neg e, h i h2 (fun x => e x.symm)]
theorem rowsN_nil (n : Nat) : rowsN n (fun _ => []) = List.replicate n [] := by
  refine List.ext_getElem (by rw [rowsN_len, List.length_replicate]) fun i h1 h2 => ?_
  rw [rowsN_at, List.getElem_replicate]; rfl
theorem rowsN_eq {n : Nat} {f f' : Nat → List Int} (h : ∀ i, i < n → f i = f' i) : rowsN n f = rowsN n f' := by
  unfold rowsN
  exact List.map_congr_left fun i hi => by rw [h i (List.mem_range.1 hi)]
theorem tosP_snoc (E : Ed) (e : Int × Int) (v : Int) : tosP (E ++ [e]) v = tosP E v ++ if e.1 = v then [e.2] else [] := by
  unfold tosP
  rw [List.filter_append, List.map_append]
  by_cases h : e.1 = v
  · simp [h]
  · simp [h]
theorem tosP_len (E : Ed) (v : Int) : (tosP E v).length ≤ E.length := by
  unfold tosP
  rw [List.length_map]; exact List.length_filter_le _ _
theorem take_snoc {α : Type} {l : List α} {k : Nat} (h : k < l.length) : l.take (k + 1) = l.take k ++ [l[k]] := by
  rw [List.take_add_one, List.getElem?_eq_getElem h, Option.toList_some]
/-- all edges stay within n -/
def EdOk (n : Nat) (E : Ed) : Prop := ∀ e ∈ E, (0 ≤ e.1 ∧ e.1 < n) ∧ 0 ≤ e.2 ∧ e.2 < n
end Go.Z.Gr
namespace Go.Proofs.Ytmefecnjliadaaa
set_option maxRecDepth 8000
set_option linter.unusedVariables false
set_option linter.unusedSimpArgs false
set_option linter.unusedSectionVars false
open Go Go.Z Go.Z.Gr
theorem neigh_ok {ρ : Nat → Obj → Prop} (n : Nat) (a : Option Addr) (c : Nat) (E : Ed) (hE : EdR ρ a E) (hlE : E.length ≤ 1000000) (hn : n ≤ 4096) (ho : EdOk n E) :
    Con Try.prog ρ 24 #[.int .i64 n, .slice a E.length c] [] (fun r H => ∃ a' c', r = .slice a' n c' ∧ H = [Own2 24 3 a' c' (rowsN n fun v => nbP E v)]) := by
  refine con_intro Try.func24 Try.call24 rfl Try.ntmps24 rfl (L := [(0, _), (1, _)]) rfl fun w hh => ?_
  refine g_seq ?_
  refine g_region ?_
  refine g_pure (p_assign rfl) rfl ?_
  refine g_nil ?_
  refine g_qt ?_
  refine g_seq ?_
  refine g_region ?_
  refine g_pure (p_move rfl) rfl ?_
  refine g_eff (e_make (by rfl) (by rfl) rfl rfl (by omega) (by first | omega | (dsimp only; omega)) (by omega)) rfl (fun _ _ => ?_)
  rintro ⟨b10, rfl, rfl⟩
  refine g_pure (p_assign rfl) rfl ?_
  refine g_nil ?_
  refine g_qt ?_
  refine g_seq ?_
  refine g_seq ?_
  refine g_region ?_
  refine g_pure (p_move rfl) rfl ?_
  refine g_pure (p_len (by rfl) rfl) rfl ?_
  refine g_pure (p_move rfl) rfl ?_
  refine g_nil ?_
  refine g_qt ?_
  refine g_block ?_
  refine g_fold (k := n) (cap := n) (size := 1) (xs := List.replicate n (.slice none 0 0)) (g := b10) (cur := List.replicate n (.slice none 0 0)) (by rw [Int.toNat_natCast]; exact .here) (Nat.le_refl _) (by omega) (by simp) (by rw [Nat.mul_one, List.take_of_length_le (by simp)]) ?_
  refine g_nils (ei := 3) .here ?_
  rw [← rowsN_nil n, Int.toNat_natCast]
  refine g_loop (fun k : Nat => [(0, .int .i64 n), (5, .slice (some ⟨b10, 0, none⟩) n n), (11, .slice a E.length c), (12, .int .i64 E.length), (13, .int .i64 k)])
    (fun k => [Own2 24 3 (some ⟨b10, 0, none⟩) n (rowsN n fun v => tosP (E.take k) v)]) (fun k => k ≤ E.length) (fun k => E.length - k) 0 (Nat.zero_le _) (by (repeat (first | exact trivial | refine ⟨by rfl, ?_⟩)); done) (by repeat' (first | exact Cover.nil | exact Take.here | apply Cover.cons | apply Take.there)) fun k hk => ?_
  refine g_seq ?_
  refine g_region ?_
  refine g_pure (p_lss rfl rfl) rfl ?_
  refine g_nil ?_
  refine g_qt ?_
  refine g_seq ?_
  refine g_ifd rfl (fun q => ?_) (fun q => ?_)
  · have hk' : k < E.length := by omega
    obtain ⟨be, oe, ce, Te, ze, i1, i2, i3⟩ := hE.at (by omega)
    obtain ⟨i4, -, -⟩ := i3 k hk'
    obtain ⟨⟨e1, e2⟩, e3, e4⟩ := ho _ (List.getElem_mem hk')
    have htk := take_snoc hk'
    have htl := tosP_len (E.take k) (E[k].1.toNat : Nat)
    have hkl : (E.take k).length = k := by simp; omega
    generalize hx : E[k].1 = x at *
    generalize hy : E[k].2 = y at *
    refine g_skip ?_
    refine g_qt ?_
    refine g_seq ?_
    refine g_block ?_
    refine g_seq ?_
    refine g_region ?_
    refine g_pure (p_indexAddr rfl rfl (by omega) (fun _ => i1)) rfl ?_
    refine g_pure (p_loadN (by rfl) rfl (Has.ro i2) i4) rfl ?_
    refine g_eff (e_alloc (by rfl)) rfl (fun _ _ => ?_)
    rintro ⟨b7, rfl, rfl⟩
    first | refine g_eff0 (e_storeO rfl rfl (by rfl) (by rfl) (by rfl) (by repeat' (first | exact Take.here | apply Take.there)) (by rfl)) (fun _ _ => ?_) | refine g_eff0 (e_storeN rfl rfl (by rfl) (by rfl) (by rfl) (by repeat' (first | exact Take.here | apply Take.there)) (by simp)) (fun _ _ => ?_)
    rintro rfl
    refine g_nil ?_
    refine g_qt ?_
    generalize hrows : (rowsN n fun v => tosP (E.take k) v) = rows at *
    have hrn : rows.length = n := by rw [← hrows, rowsN_len]
    have hxn : x.toNat < rows.length := by omega
    have hrj : rows[x.toNat] = (tosP (E.take k) (x.toNat : Nat)).map Z.encI := by subst hrows; exact rowsN_at _
    have hst : rows.set x.toNat (rows[x.toNat] ++ [.int .i64 y]) = rowsN n fun v => tosP (E.take (k + 1)) v := by
      subst hrows
      refine rowsN_set (by omega) (fun i _ hi => ?_) ?_
      · rw [htk, tosP_snoc, hx, if_neg (by omega), List.append_nil]
      · rw [hrj, htk, tosP_snoc, hx, if_pos (by omega), List.map_append, hy]; rfl
    have hrl : rows[x.toNat].length ≤ 1000000 := by rw [hrj, List.length_map]; omega
    refine g_rowO (j := x.toNat) (by repeat' (first | exact Take.here | apply Take.there)) hxn ?_
    rintro g cur ra rc hg g1 g2 g3 g4
    cases hg
    rw [hrn] at g1
    generalize hrr : rows[x.toNat] = row at *
    refine m_begin (.fl 0 0 (.fl 1 0 (.fl 2 1 (.fl 3 0 (.fl 4 0 (.fl 5 1 (.fl 6 0 (.fl 7 1 (.fl 8 0 (.fl 9 1 (.ef 10 (.ef 11 (.fl 12 0 (.ef 13 .done)))))))))))))) [Blk b10 (.cells cur.toArray 24 (0, 0)), Blk b7 (.cells [.int .i64 x, .int .i64 y].toArray 40 (0, 0))] (by kernel_rfl) (by kernel_rfl) (by repeat' (first | exact Cover.nil | exact Take.here | apply Cover.cons | apply Take.there)) ?_
    refine m_float0 rfl (fun _ _ => p_move rfl) rfl ?_
    refine m_float0 rfl (fun _ _ => p_fieldAddr rfl) rfl ?_
    refine m_float rfl (p_load (by rfl) rfl (by first | (apply Has.own; (repeat' (first | exact Take.here | apply Take.there)); done) | exact Has.ro (by assumption)) (by first | rfl | assumption)) rfl ?_
    refine m_float0 rfl (fun _ _ => p_move rfl) rfl ?_
    refine m_float0 rfl (fun _ _ => p_fieldAddr rfl) rfl ?_
    refine m_float rfl (p_load (by rfl) rfl (by first | (apply Has.own; (repeat' (first | exact Take.here | apply Take.there)); done) | exact Has.ro (by assumption)) (by first | rfl | assumption)) rfl ?_
    refine m_float0 rfl (fun _ _ => p_indexAddr rfl rfl (by omega) (fun _ => rfl)) rfl ?_
    refine m_float rfl (p_load (by rfl) rfl (Has.own (by repeat' (first | exact Take.here | apply Take.there))) g4) rfl ?_
    refine m_float0 rfl (fun _ _ => p_fieldAddr rfl) rfl ?_
    refine m_float rfl (p_load (by rfl) rfl (by first | (apply Has.own; (repeat' (first | exact Take.here | apply Take.there)); done) | exact Has.ro (by assumption)) (by first | rfl | assumption)) rfl ?_
    refine m_eff rfl (e_bs (xs := [.tmp 26]) rfl rfl rfl (by rfl) (by rfl) rfl (by rfl)) rfl (fun _ _ => ?_)
    rintro ⟨b27, rfl, rfl⟩
    refine ⟨.some (by repeat' (first | exact Cover.nil | exact Take.here | apply Cover.cons | apply Take.there)), ?_⟩
    refine m_eff rfl (e_appendO (by rfl) (by rfl) rfl rfl (by first | (apply Has.own; (repeat' (first | exact Take.here | apply Take.there)); done) | exact Has.ro (by assumption)) (by rfl) (by rfl) (by repeat' (first | exact Take.here | apply Take.there)) (by omega) (by first | omega | (dsimp only; omega) | (simp <;> omega)) (by omega)) rfl (fun _ _ => ?_)
    rintro ⟨a28, c28, rfl, rfl⟩
    refine ⟨.some (by repeat' (first | exact Cover.nil | exact Take.here | apply Cover.cons | apply Take.there)), ?_⟩
    refine m_float0 rfl (fun _ _ => p_indexAddr rfl rfl (by omega) (fun _ => rfl)) rfl ?_
    first | refine m_eff0 rfl (e_storeO rfl rfl (by rfl) (by rfl) (by rfl) (by repeat' (first | exact Take.here | apply Take.there)) (by rfl)) (fun _ _ => ?_) | refine m_eff0 rfl (e_store1 (by rfl) rfl rfl rfl (by repeat' (first | exact Take.here | apply Take.there)) (by first | decide | (simp <;> omega) | omega)) (fun _ _ => ?_)
    rintro rfl
    refine ⟨.none (by kernel_rfl), ?_⟩
    refine m_nil ?_
    refine g_qb ?_
    refine g_qt ?_
    refine g_region ?_
    first | refine g_pure (p_addi rfl rfl (by omega)) rfl ?_ | refine g_pure (p_add rfl rfl) rfl ?_
    refine g_pure (p_move rfl) rfl ?_
    refine g_nil ?_
    refine g_qn ?_
    refine g_rowC (j := x.toNat) (r := row ++ [.int .i64 y]) (a' := a28) (c' := c28) (eo := 24) (g := b10) (cap := n) hxn (by omega) (by omega) g3 (by repeat' (first | exact Take.here | apply Take.there)) (by simp only [List.length_append, List.length_singleton]; exact (by repeat' (first | exact Take.here | apply Take.there))) (by simp only [List.length_append, List.length_singleton]; exact (by repeat' (first | exact Take.here | apply Take.there))) ?_
    rw [hst]
    exact g_next (k + 1) (by (repeat (first | exact trivial | refine ⟨by rfl, ?_⟩)); done) (by repeat' (first | exact Cover.nil | exact Take.here | apply Cover.cons | apply Take.there)) (by omega) (by omega)
  · have hke : k = E.length := by omega
    rw [hke, List.take_of_length_le (Nat.le_refl _), show (rowsN n fun v => tosP E v) = rowsN n fun v => if v < 0 then nbP E v else tosP E v from rowsN_eq fun i _ => by rw [if_neg (by omega)]]
    refine g_exit ?_
    refine g_qt_exit ?_
    refine g_qn_exit ?_
    refine g_qb_exit ?_
    refine g_qt ?_
    refine g_seq ?_
    refine g_seq ?_
    refine g_region ?_
    refine g_pure (p_move rfl) rfl ?_
    refine g_pure (p_len (by rfl) rfl) rfl ?_
    refine g_pure (p_move rfl) rfl ?_
    refine g_nil ?_
    refine g_qt ?_
    refine g_block ?_
    refine g_loop (fun k : Nat => [(5, .slice (some ⟨b10, 0, none⟩) n n), (31, .slice (some ⟨b10, 0, none⟩) n n), (32, .int .i64 n), (33, .int .i64 k)])
      (fun k => [Own2 24 3 (some ⟨b10, 0, none⟩) n (rowsN n fun v => if v < k then nbP E v else tosP E v)]) (fun k => k ≤ n) (fun k => n - k) 0 (Nat.zero_le _) (by (repeat (first | exact trivial | refine ⟨by rfl, ?_⟩)); done) (by repeat' (first | exact Cover.nil | exact Take.here | apply Cover.cons | apply Take.there)) fun k hk => ?_
    refine g_seq ?_
    refine g_region ?_
    refine g_pure (p_lss rfl rfl) rfl ?_
    refine g_nil ?_
    refine g_qt ?_
    refine g_seq ?_
    refine g_ifd rfl (fun q => ?_) (fun q => ?_)
    · have hk' : k < n := by omega
      generalize hrows : (rowsN n fun v => if v < k then nbP E v else tosP E v) = rows at *
      have hrn : rows.length = n := by rw [← hrows, rowsN_len]
      have hxn : k < rows.length := by omega
      have hrj : rows[k] = (tosP E k).map Z.encI := by subst hrows; rw [rowsN_at, if_neg (by omega)]
      have hst : rows.set k ((nbP E k).map Z.encI) = rowsN n fun v => if v < k + 1 then nbP E v else tosP E v := by
        subst hrows
        refine rowsN_set hk' (fun i _ hi => ?_) ?_
        · by_cases h : i < k
          · rw [if_pos h, if_pos (by omega)]
          · rw [if_neg h, if_neg (by omega)]
        · rw [if_pos (by omega)]
      refine g_rowO (j := k) (by repeat' (first | exact Take.here | apply Take.there)) hxn ?_
      rintro g cur ra rc hg g1 g2 g3 g4
      cases hg
      rw [hrn] at g1
      rw [hrj] at g4 ⊢
      have htl := tosP_len E k
      generalize htt : tosP E k = tl at *
      rw [List.length_map] at g4 ⊢
      have g4' : cur[0 + (k : Int).toNat * 1]? = some (.slice ra tl.length rc) := g4
      refine g_skip ?_
      refine g_qt ?_
      refine g_seq ?_
      refine g_block ?_
      refine g_seq ?_
      refine g_region ?_
      refine g_pure (p_move rfl) rfl ?_
      refine g_pure (p_assign rfl) rfl ?_
      refine g_nil ?_
      refine g_qt ?_
      refine g_seq ?_
      refine g_region ?_
      refine g_pure (p_move rfl) rfl ?_
      refine g_pure (p_move rfl) rfl ?_
      refine g_pure (p_indexAddr rfl rfl (by omega) (fun _ => rfl)) rfl ?_
      refine g_pure (p_load (by rfl) rfl (Has.own (by repeat' (first | exact Take.here | apply Take.there))) g4') rfl ?_
      refine g_call (Hin := [OwnSl 3 1 ra tl.length rc (tl.map Z.encI)]) (Hr := ?hr1) (R := ?rr1) rfl rfl rfl ?hin1 ?hc1 ?hk1
      case hin1 => repeat' (first | exact Cover.nil | exact Take.here | apply Cover.cons | apply Take.there)
      case hc1 => intro ρ' hρ hR; exact sort_ok ra rc tl (by omega)
      rintro _ _ ⟨rfl, rfl⟩
      refine g_nil ?_
      refine g_qt ?_
      refine g_region ?_
      refine g_pure (p_move rfl) rfl ?_
      refine g_pure (p_move rfl) rfl ?_
      refine g_pure (p_move rfl) rfl ?_
      refine g_pure (p_move rfl) rfl ?_
      refine g_pure (p_indexAddr rfl rfl (by omega) (fun _ => rfl)) rfl ?_
      refine g_pure (p_load (by rfl) rfl (Has.own (by repeat' (first | exact Take.here | apply Take.there))) g4') rfl ?_
      have hsl : (tl.mergeSort leI).length = tl.length := List.length_mergeSort tl
      rw [← hsl] at g4'
      rw [← hsl]
      refine g_call (Hin := [OwnSl 3 1 ra (tl.mergeSort leI).length rc ((tl.mergeSort leI).map Z.encI)]) (Hr := ?hr2) (R := ?rr2) rfl rfl rfl ?hin2 ?hc2 ?hk2
      case hin2 => repeat' (first | exact Cover.nil | exact Take.here | apply Cover.cons | apply Take.there)
      case hc2 => intro ρ' hρ hR; exact compact_ok ra rc (tl.mergeSort leI) (by omega)
      rintro _ _ ⟨rfl, rfl⟩
      refine g_pure (p_indexAddr rfl rfl (by omega) (fun _ => rfl)) rfl ?_
      first | refine g_eff0 (e_storeO rfl rfl (by rfl) (by rfl) (by rfl) (by repeat' (first | exact Take.here | apply Take.there)) (by rfl)) (fun _ _ => ?_) | refine g_eff0 (e_store1 (by rfl) rfl rfl rfl (by repeat' (first | exact Take.here | apply Take.there)) (by first | decide | (simp <;> omega) | omega)) (fun _ _ => ?_)
      rintro rfl
      refine g_nil ?_
      refine g_qb ?_
      refine g_qt ?_
      refine g_region ?_
      first | refine g_pure (p_addi rfl rfl (by omega)) rfl ?_ | refine g_pure (p_add rfl rfl) rfl ?_
      refine g_pure (p_move rfl) rfl ?_
      refine g_nil ?_
      refine g_qn ?_
      have hcl := Lib.compact_length_le (tl.mergeSort leI)
      have hnb : nbP E k = Lib.compact (tl.mergeSort leI) := by rw [← htt]; rfl
      rw [← hnb] at hcl ⊢
      refine g_rowC (j := k) (r := (nbP E k).map Z.encI) (a' := ra) (c' := rc) (eo := 24) (g := b10) (cap := n) hxn (by omega) (by omega) g3 (by repeat' (first | exact Take.here | apply Take.there)) (by rw [List.length_map]; exact (by repeat' (first | exact Take.here | apply Take.there))) (by rw [List.length_map]; exact (by repeat' (first | exact Take.here | apply Take.there))) ?_
      rw [hst]
      exact g_next (k + 1) (by (repeat (first | exact trivial | refine ⟨by rfl, ?_⟩)); done) (by repeat' (first | exact Cover.nil | exact Take.here | apply Cover.cons | apply Take.there)) (by omega) (by omega)
    · have hke : k = n := by omega
      rw [hke, show (rowsN n fun v => if v < n then nbP E v else tosP E v) = rowsN n fun v => nbP E v from rowsN_eq fun i hi => by rw [if_pos hi]]
      refine g_exit ?_
      refine g_qt_exit ?_
      refine g_qn_exit ?_
      refine g_qb_exit ?_
      refine g_qt ?_
      refine g_seq ?_
      refine g_region ?_
      refine g_pure (p_move rfl) rfl ?_
      refine g_pure (p_assign rfl) rfl ?_
      refine g_nil ?_
      refine g_qt ?_
      refine g_ret ?_
      exact g_post (rs := [.tmp 4]) rfl (.tmp rfl .nil) ⟨some ⟨b10, 0, none⟩, n, rfl, rfl⟩ (by repeat' (first | exact Cover.nil | exact Take.here | apply Cover.cons | apply Take.there))
end Go.Proofs.Ytmefecnjliadaaa
