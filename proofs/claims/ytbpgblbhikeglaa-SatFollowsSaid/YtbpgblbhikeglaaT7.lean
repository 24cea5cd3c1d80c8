/- Chapter 37: a new solver. Conditions: none. -/
import Derived.Test.YtbpgblbhikeglaaT6
namespace Go.Proofs.Ytbpgblbhikeglaa
set_option linter.unusedVariables false
set_option linter.unusedSimpArgs false
set_option linter.unusedSectionVars false
open Go Go.Z Go.Z.Sat

theorem new_ok {ρ : Nat → Obj → Prop} {n : Nat} {F : Fm} (hO : Ok n F) (ca : Option Addr) (cc : Nat) (hF : FmR ρ ca F) :
    Con Try.prog ρ 21 #[.agg #[.int .i64 n, .slice ca F.length cc]] [] (fun v H => ∃ s p, p.n = n ∧ p.m = F.length ∧ p.ca = ca ∧ v = .pointer (some ⟨s, 0, none⟩) ∧ H = [Sv s p (fun _ => none) [] (trues F (fun _ => none)) 0, Own2 32 3 p.ua p.uc (usesV n F)]) := by
  have hvars := hO.vars
  have hlen := hO.len
  refine con_intro Try.func21 Try.call21 rfl Try.ntmps21 rfl (L := [(0, _)]) rfl fun w hh => ?_
  refine g_seq ?_
  refine g_region ?_
  refine g_eff (e_box rfl (by rfl)) rfl (fun _ _ => ?_)
  rintro ⟨b1, rfl, rfl⟩
  refine g_pure (p_assign rfl) rfl ?_
  refine g_nil ?_
  refine g_qt ?_
  refine g_seq ?_
  refine g_join (fun y : Nat × Nat × Nat × Nat => [(1, .pointer (some ⟨b1, 0, none⟩)), (3, .pointer (some ⟨y.1, 0, none⟩))])
    (fun y => [Blk b1 (.cells [.int .i64 n, .slice ca F.length cc].toArray 24 (0, 0)), Blk y.1 (.cells [.int .i64 n, .slice ca F.length cc, .slice (some ⟨y.2.1, 0, none⟩) ((n : Int) + 1).toNat ((n : Int) + 1).toNat, .slice none 0 0, .slice (some ⟨y.2.2.1, 0, none⟩) (2 * (n : Int) + 2).toNat (2 * (n : Int) + 2).toNat, .slice (some ⟨y.2.2.2, 0, none⟩) (F.length : Int).toNat (F.length : Int).toNat, .int .i64 F.length, .int .i64 0].toArray 57 (0, 0)),
      Blk y.2.1 (.cells (List.replicate ((n : Int) + 1).toNat (Value.int .i64 0)).toArray 3 (0, 0)), Blk y.2.2.1 (.cells (List.replicate (2 * (n : Int) + 2).toNat (Value.slice none 0 0)).toArray 32 (0, 0)), Blk y.2.2.2 (.cells (List.replicate (F.length : Int).toNat (Value.int .i64 0)).toArray 3 (0, 0))]) (fun _ => True) ?_ ?_
  · refine m_begin0 (.fl 0 1 (.fl 1 0 (.fl 2 1 (.fl 3 0 (.fl 5 0 (.fl 6 1 (.fl 7 0 (.fl 8 0 (.fl 10 0 (.fl 11 1 (.fl 12 0 (.fl 14 0 (.fl 15 1 (.fl 16 0 (.or (.ef 4 (.or (.ef 9 (.ef 13 (.fl 17 0 (.ef 18 (.fl 19 0 .done))))) (.ef 13 (.ef 9 (.fl 17 0 (.ef 18 (.fl 19 0 .done))))))) (.or (.ef 9 (.or (.ef 4 (.ef 13 (.fl 17 0 (.ef 18 (.fl 19 0 .done))))) (.ef 13 (.ef 4 (.fl 17 0 (.ef 18 (.fl 19 0 .done))))))) (.ef 13 (.or (.ef 4 (.ef 9 (.fl 17 0 (.ef 18 (.fl 19 0 .done))))) (.ef 9 (.ef 4 (.fl 17 0 (.ef 18 (.fl 19 0 .done))))))))))))))))))))))) (by kernel_rfl) (by kernel_rfl) ?_
    first | refine m_float rfl (p_loadO (by rfl) rfl (by first | (apply Has.own; (repeat' (first | exact Take.here | apply Take.there)); done) | exact Has.ro (by assumption)) (by rfl)) rfl ?_ | refine m_float rfl (p_loadN (by rfl) rfl (by first | (apply Has.own; (repeat' (first | exact Take.here | apply Take.there)); done) | exact Has.ro (by assumption)) (by first | rfl | assumption)) rfl ?_
    refine m_float0 rfl (fun _ _ => p_fieldAddr rfl) rfl ?_
    refine m_float rfl (p_load (by rfl) rfl (by first | (apply Has.own; (repeat' (first | exact Take.here | apply Take.there)); done) | exact Has.ro (by assumption)) (by first | rfl | assumption)) rfl ?_
    first | refine m_float0 rfl (fun _ _ => p_addi rfl rfl (by omega)) rfl ?_ | refine m_float0 rfl (fun _ _ => p_add rfl rfl) rfl ?_
    refine m_float0 rfl (fun _ _ => p_fieldAddr rfl) rfl ?_
    refine m_float rfl (p_load (by rfl) rfl (by first | (apply Has.own; (repeat' (first | exact Take.here | apply Take.there)); done) | exact Has.ro (by assumption)) (by first | rfl | assumption)) rfl ?_
    first | refine m_float0 rfl (fun _ _ => p_muli rfl rfl (by omega)) rfl ?_ | refine m_float0 rfl (fun _ _ => p_mul rfl rfl) rfl ?_
    first | refine m_float0 rfl (fun _ _ => p_addi rfl rfl (by omega)) rfl ?_ | refine m_float0 rfl (fun _ _ => p_add rfl rfl) rfl ?_
    refine m_float0 rfl (fun _ _ => p_fieldAddr rfl) rfl ?_
    refine m_float rfl (p_load (by rfl) rfl (by first | (apply Has.own; (repeat' (first | exact Take.here | apply Take.there)); done) | exact Has.ro (by assumption)) (by first | rfl | assumption)) rfl ?_
    refine m_float0 rfl (fun _ _ => p_len (by rfl) rfl) rfl ?_
    refine m_float0 rfl (fun _ _ => p_fieldAddr rfl) rfl ?_
    refine m_float rfl (p_load (by rfl) rfl (by first | (apply Has.own; (repeat' (first | exact Take.here | apply Take.there)); done) | exact Has.ro (by assumption)) (by first | rfl | assumption)) rfl ?_
    refine m_float0 rfl (fun _ _ => p_len (by rfl) rfl) rfl ?_
    refine m_or ?_ ?_
    · refine m_eff rfl (e_make (by rfl) (by rfl) rfl rfl (by omega) (by first | omega | (dsimp only; omega)) (by omega)) rfl (fun _ _ => ?_)
      rintro ⟨b12, rfl, rfl⟩
      refine ⟨.some (by repeat' (first | exact Cover.nil | exact Take.here | apply Cover.cons | apply Take.there)), ?_⟩
      refine m_or ?_ ?_
      · refine m_eff rfl (e_make (by rfl) (by rfl) rfl rfl (by omega) (by first | omega | (dsimp only; omega)) (by omega)) rfl (fun _ _ => ?_)
        rintro ⟨b17, rfl, rfl⟩
        refine ⟨.some (by repeat' (first | exact Cover.nil | exact Take.here | apply Cover.cons | apply Take.there)), ?_⟩
        refine m_eff rfl (e_make (by rfl) (by rfl) rfl rfl (by omega) (by first | omega | (dsimp only; omega)) (by omega)) rfl (fun _ _ => ?_)
        rintro ⟨b21, rfl, rfl⟩
        refine ⟨.some (by repeat' (first | exact Cover.nil | exact Take.here | apply Cover.cons | apply Take.there)), ?_⟩
        refine m_float0 rfl (fun _ _ => p_build (by rfl) rfl (by rfl)) rfl ?_
        refine m_eff rfl (e_box rfl (by rfl)) rfl (fun _ _ => ?_)
        rintro ⟨b26, rfl, rfl⟩
        refine ⟨.none (by kernel_rfl), ?_⟩
        refine m_float0 rfl (fun _ _ => p_assign rfl) rfl ?_
        refine m_nil ?_
        refine g_qn ?_
        exact g_joined (b26, b12, b17, b21) (by repeat (first | exact trivial | refine ⟨by rfl, ?_⟩)) (by repeat' (first | exact Cover.nil | exact Take.here | apply Cover.cons | apply Take.there)) trivial
      refine m_eff rfl (e_make (by rfl) (by rfl) rfl rfl (by omega) (by first | omega | (dsimp only; omega)) (by omega)) rfl (fun _ _ => ?_)
      rintro ⟨b21, rfl, rfl⟩
      refine ⟨.some (by repeat' (first | exact Cover.nil | exact Take.here | apply Cover.cons | apply Take.there)), ?_⟩
      refine m_eff rfl (e_make (by rfl) (by rfl) rfl rfl (by omega) (by first | omega | (dsimp only; omega)) (by omega)) rfl (fun _ _ => ?_)
      rintro ⟨b17, rfl, rfl⟩
      refine ⟨.some (by repeat' (first | exact Cover.nil | exact Take.here | apply Cover.cons | apply Take.there)), ?_⟩
      refine m_float0 rfl (fun _ _ => p_build (by rfl) rfl (by rfl)) rfl ?_
      refine m_eff rfl (e_box rfl (by rfl)) rfl (fun _ _ => ?_)
      rintro ⟨b26, rfl, rfl⟩
      refine ⟨.none (by kernel_rfl), ?_⟩
      refine m_float0 rfl (fun _ _ => p_assign rfl) rfl ?_
      refine m_nil ?_
      refine g_qn ?_
      exact g_joined (b26, b12, b17, b21) (by repeat (first | exact trivial | refine ⟨by rfl, ?_⟩)) (by repeat' (first | exact Cover.nil | exact Take.here | apply Cover.cons | apply Take.there)) trivial
    refine m_or ?_ ?_
    · refine m_eff rfl (e_make (by rfl) (by rfl) rfl rfl (by omega) (by first | omega | (dsimp only; omega)) (by omega)) rfl (fun _ _ => ?_)
      rintro ⟨b17, rfl, rfl⟩
      refine ⟨.some (by repeat' (first | exact Cover.nil | exact Take.here | apply Cover.cons | apply Take.there)), ?_⟩
      refine m_or ?_ ?_
      · refine m_eff rfl (e_make (by rfl) (by rfl) rfl rfl (by omega) (by first | omega | (dsimp only; omega)) (by omega)) rfl (fun _ _ => ?_)
        rintro ⟨b12, rfl, rfl⟩
        refine ⟨.some (by repeat' (first | exact Cover.nil | exact Take.here | apply Cover.cons | apply Take.there)), ?_⟩
        refine m_eff rfl (e_make (by rfl) (by rfl) rfl rfl (by omega) (by first | omega | (dsimp only; omega)) (by omega)) rfl (fun _ _ => ?_)
        rintro ⟨b21, rfl, rfl⟩
        refine ⟨.some (by repeat' (first | exact Cover.nil | exact Take.here | apply Cover.cons | apply Take.there)), ?_⟩
        refine m_float0 rfl (fun _ _ => p_build (by rfl) rfl (by rfl)) rfl ?_
        refine m_eff rfl (e_box rfl (by rfl)) rfl (fun _ _ => ?_)
        rintro ⟨b26, rfl, rfl⟩
        refine ⟨.none (by kernel_rfl), ?_⟩
        refine m_float0 rfl (fun _ _ => p_assign rfl) rfl ?_
        refine m_nil ?_
        refine g_qn ?_
        exact g_joined (b26, b12, b17, b21) (by repeat (first | exact trivial | refine ⟨by rfl, ?_⟩)) (by repeat' (first | exact Cover.nil | exact Take.here | apply Cover.cons | apply Take.there)) trivial
      refine m_eff rfl (e_make (by rfl) (by rfl) rfl rfl (by omega) (by first | omega | (dsimp only; omega)) (by omega)) rfl (fun _ _ => ?_)
      rintro ⟨b21, rfl, rfl⟩
      refine ⟨.some (by repeat' (first | exact Cover.nil | exact Take.here | apply Cover.cons | apply Take.there)), ?_⟩
      refine m_eff rfl (e_make (by rfl) (by rfl) rfl rfl (by omega) (by first | omega | (dsimp only; omega)) (by omega)) rfl (fun _ _ => ?_)
      rintro ⟨b12, rfl, rfl⟩
      refine ⟨.some (by repeat' (first | exact Cover.nil | exact Take.here | apply Cover.cons | apply Take.there)), ?_⟩
      refine m_float0 rfl (fun _ _ => p_build (by rfl) rfl (by rfl)) rfl ?_
      refine m_eff rfl (e_box rfl (by rfl)) rfl (fun _ _ => ?_)
      rintro ⟨b26, rfl, rfl⟩
      refine ⟨.none (by kernel_rfl), ?_⟩
      refine m_float0 rfl (fun _ _ => p_assign rfl) rfl ?_
      refine m_nil ?_
      refine g_qn ?_
      exact g_joined (b26, b12, b17, b21) (by repeat (first | exact trivial | refine ⟨by rfl, ?_⟩)) (by repeat' (first | exact Cover.nil | exact Take.here | apply Cover.cons | apply Take.there)) trivial
    refine m_eff rfl (e_make (by rfl) (by rfl) rfl rfl (by omega) (by first | omega | (dsimp only; omega)) (by omega)) rfl (fun _ _ => ?_)
    rintro ⟨b21, rfl, rfl⟩
    refine ⟨.some (by repeat' (first | exact Cover.nil | exact Take.here | apply Cover.cons | apply Take.there)), ?_⟩
    refine m_or ?_ ?_
    · refine m_eff rfl (e_make (by rfl) (by rfl) rfl rfl (by omega) (by first | omega | (dsimp only; omega)) (by omega)) rfl (fun _ _ => ?_)
      rintro ⟨b12, rfl, rfl⟩
      refine ⟨.some (by repeat' (first | exact Cover.nil | exact Take.here | apply Cover.cons | apply Take.there)), ?_⟩
      refine m_eff rfl (e_make (by rfl) (by rfl) rfl rfl (by omega) (by first | omega | (dsimp only; omega)) (by omega)) rfl (fun _ _ => ?_)
      rintro ⟨b17, rfl, rfl⟩
      refine ⟨.some (by repeat' (first | exact Cover.nil | exact Take.here | apply Cover.cons | apply Take.there)), ?_⟩
      refine m_float0 rfl (fun _ _ => p_build (by rfl) rfl (by rfl)) rfl ?_
      refine m_eff rfl (e_box rfl (by rfl)) rfl (fun _ _ => ?_)
      rintro ⟨b26, rfl, rfl⟩
      refine ⟨.none (by kernel_rfl), ?_⟩
      refine m_float0 rfl (fun _ _ => p_assign rfl) rfl ?_
      refine m_nil ?_
      refine g_qn ?_
      exact g_joined (b26, b12, b17, b21) (by repeat (first | exact trivial | refine ⟨by rfl, ?_⟩)) (by repeat' (first | exact Cover.nil | exact Take.here | apply Cover.cons | apply Take.there)) trivial
    refine m_eff rfl (e_make (by rfl) (by rfl) rfl rfl (by omega) (by first | omega | (dsimp only; omega)) (by omega)) rfl (fun _ _ => ?_)
    rintro ⟨b17, rfl, rfl⟩
    refine ⟨.some (by repeat' (first | exact Cover.nil | exact Take.here | apply Cover.cons | apply Take.there)), ?_⟩
    refine m_eff rfl (e_make (by rfl) (by rfl) rfl rfl (by omega) (by first | omega | (dsimp only; omega)) (by omega)) rfl (fun _ _ => ?_)
    rintro ⟨b12, rfl, rfl⟩
    refine ⟨.some (by repeat' (first | exact Cover.nil | exact Take.here | apply Cover.cons | apply Take.there)), ?_⟩
    refine m_float0 rfl (fun _ _ => p_build (by rfl) rfl (by rfl)) rfl ?_
    refine m_eff rfl (e_box rfl (by rfl)) rfl (fun _ _ => ?_)
    rintro ⟨b26, rfl, rfl⟩
    refine ⟨.none (by kernel_rfl), ?_⟩
    refine m_float0 rfl (fun _ _ => p_assign rfl) rfl ?_
    refine m_nil ?_
    refine g_qn ?_
    exact g_joined (b26, b12, b17, b21) (by repeat (first | exact trivial | refine ⟨by rfl, ?_⟩)) (by repeat' (first | exact Cover.nil | exact Take.here | apply Cover.cons | apply Take.there)) trivial
  rintro ⟨s, bv, bu, bx⟩ -
  dsimp only
  have e1 : ((n : Int) + 1).toNat = n + 1 := by omega
  have e2 : (2 * (n : Int) + 2).toNat = 2 * n + 2 := by omega
  have e3 : (F.length : Int).toNat = F.length := by omega
  rw [e1, e2, e3]
  refine g_fold (k := 2 * n + 2) (cap := 2 * n + 2) (size := 1) (g := bu) (xs := List.replicate (2 * n + 2) (.slice none 0 0)) (by repeat' (first | exact Take.here | apply Take.there)) (Nat.le_refl _) (by omega) (by simp) (List.take_of_length_le (by simp)) ?_
  refine g_nils (ei := 3) .here ?_
  rw [← usesV_nil]
  refine g_qt ?_
  refine g_seq ?_
  refine g_seq ?_
  refine g_region ?_
  refine g_pure (p_fieldAddr rfl) rfl ?_
  refine g_pure (p_load (by rfl) rfl (by first | (apply Has.own; (repeat' (first | exact Take.here | apply Take.there)); done) | exact Has.ro (by assumption)) (by first | rfl | assumption)) rfl ?_
  refine g_pure (p_len (by rfl) rfl) rfl ?_
  refine g_pure (p_move rfl) rfl ?_
  refine g_nil ?_
  refine g_qt ?_
  refine g_block ?_
  refine g_loop (fun i : Nat => [(3, .pointer (some ⟨s, 0, none⟩)), (28, .slice ca F.length cc), (29, .int .i64 F.length), (30, .int .i64 i)])
    (fun i => [Own2 32 3 (some ⟨bu, 0, none⟩) (2 * n + 2) (usesV n (F.take i)), Blk s (.cells [.int .i64 n, .slice ca F.length cc, .slice (some ⟨bv, 0, none⟩) (n + 1) (n + 1), .slice none 0 0, .slice (some ⟨bu, 0, none⟩) (2 * n + 2) (2 * n + 2), .slice (some ⟨bx, 0, none⟩) F.length F.length, .int .i64 F.length, .int .i64 0].toArray 57 (0, 0)),
      Blk bv (.cells (List.replicate (n + 1) (Value.int .i64 0)).toArray 3 (0, 0)), Blk bx (.cells (List.replicate F.length (Value.int .i64 0)).toArray 3 (0, 0))]) (fun i => i ≤ F.length) (fun i => F.length - i) 0 (Nat.zero_le _) (by repeat (first | exact trivial | refine ⟨by rfl, ?_⟩)) (by repeat' (first | exact Cover.nil | exact Take.here | apply Cover.cons | apply Take.there)) ?_
  intro i hi
  refine g_seq ?_
  refine g_region ?_
  refine g_pure (p_lss rfl rfl) rfl ?_
  refine g_nil ?_
  refine g_qt ?_
  refine g_seq ?_
  refine g_ifd rfl (fun q => ?_) (fun q => ?_)
  · have hil : i < F.length := by omega
    obtain ⟨b, off, cs, T1, fz, r1, r2, r3⟩ := hF.at (by omega)
    obtain ⟨ai, ci, x1', _, bi, oi, ki, Ti, fi, w2⟩ := r3 i hil
    have x1 : cs[off + (i : Int).toNat * 1]? = some (.slice ai F[i].length ci) := x1'
    have hlits := hO.lits F[i] (List.getElem_mem hil)
    have hcl := hO.lens F[i] (List.getElem_mem hil)
    refine g_skip ?_
    refine g_qt ?_
    refine g_seq ?_
    refine g_block ?_
    refine g_seq ?_
    refine g_region ?_
    refine g_pure (p_move rfl) rfl ?_
    refine g_pure (p_indexAddr rfl rfl (by omega) (fun _ => r1)) rfl ?_
    refine g_pure (p_load (by rfl) rfl (Has.ro r2) x1) rfl ?_
    refine g_pure (p_assign rfl) rfl ?_
    refine g_pure (p_assign rfl) rfl ?_
    refine g_nil ?_
    refine g_qt ?_
    refine g_seq ?_
    refine g_region ?_
    refine g_pure (p_move rfl) rfl ?_
    refine g_pure (p_len (by rfl) rfl) rfl ?_
    refine g_pure (p_move rfl) rfl ?_
    refine g_nil ?_
    refine g_qt ?_
    refine g_block ?_
    refine g_loop (fun j : Nat => [(3, .pointer (some ⟨s, 0, none⟩)), (28, .slice ca F.length cc), (29, .int .i64 F.length), (30, .int .i64 i), (4, .int .i64 i), (35, .slice ai F[i].length ci), (36, .int .i64 F[i].length), (37, .int .i64 j)])
      (fun j => [Own2 32 3 (some ⟨bu, 0, none⟩) (2 * n + 2) (usesV n (F.take i ++ [F[i].take j])), Blk s (.cells [.int .i64 n, .slice ca F.length cc, .slice (some ⟨bv, 0, none⟩) (n + 1) (n + 1), .slice none 0 0, .slice (some ⟨bu, 0, none⟩) (2 * n + 2) (2 * n + 2), .slice (some ⟨bx, 0, none⟩) F.length F.length, .int .i64 F.length, .int .i64 0].toArray 57 (0, 0)),
        Blk bv (.cells (List.replicate (n + 1) (Value.int .i64 0)).toArray 3 (0, 0)), Blk bx (.cells (List.replicate F.length (Value.int .i64 0)).toArray 3 (0, 0))]) (fun j => j ≤ F[i].length) (fun j => F[i].length - j) 0 (Nat.zero_le _) (by repeat (first | exact trivial | refine ⟨by rfl, ?_⟩)) (by rw [List.take_zero, usesV_empty]; exact (by repeat' (first | exact Cover.nil | exact Take.here | apply Cover.cons | apply Take.there))) ?_
    intro j hj
    refine g_seq ?_
    refine g_region ?_
    refine g_pure (p_lss rfl rfl) rfl ?_
    refine g_nil ?_
    refine g_qt ?_
    refine g_seq ?_
    refine g_ifd rfl (fun r => ?_) (fun r => ?_)
    · have hjl : j < F[i].length := by omega
      obtain ⟨w3, w4, w5⟩ := w2 (by omega)
      have x2 : ki[oi + (j : Int).toNat * 1]? = some (encI F[i][j]) := flat2 w5 (mapI _ hjl) (by simp)
      have hl := hlits F[i][j] (List.getElem_mem hjl)
      have hstep := fun r => usesV_step (n := n) (F.take i) (F[i].take j) (l := F[i][j]) hl (r := r)
      have hu := uix_lt hl
      have hget : (usesV n (F.take i ++ [F[i].take j]))[(uix F[i][j]).toNat]? = some ((useRow (F.take i ++ [F[i].take j]) (uix F[i][j])).map encN) := by
        rw [List.getElem?_eq_getElem (by rw [usesV_len]; omega), usesV_get _ (by omega), Int.toNat_of_nonneg hu.1]
      have hpre := useRow_pre F hil j (uix F[i][j])
      have hrl := hO.rows (uix F[i][j])
      have htk : F[i].take j ++ [F[i][j]] = F[i].take (j + 1) := by rw [List.take_add_one, List.getElem?_eq_getElem hjl, Option.toList_some]
      have hli : (F.take i).length = i := by rw [List.length_take]; omega
      rw [htk, hli] at hstep
      generalize hlk : F[i][j] = l at *
      generalize hcu : useRow (F.take i ++ [F[i].take j]) (uix l) = cu at *
      have hrw := usesV_len n (F.take i ++ [F[i].take j])
      generalize hrows : usesV n (F.take i ++ [F[i].take j]) = rows at *
      obtain ⟨h0, hl1, hl2⟩ := id hl
      refine g_skip ?_
      refine g_qt ?_
      refine g_seq ?_
      refine g_block ?_
      refine g_seq ?_
      refine g_region ?_
      refine g_pure (p_indexAddr rfl rfl (by omega) (fun _ => w3)) rfl ?_
      refine g_pure (p_load (by rfl) rfl (Has.ro w4) x2) rfl ?_
      refine g_pure (p_assign rfl) rfl ?_
      refine g_nil ?_
      refine g_qt ?_
      refine g_open2 .here ?_
      intro hs hhs
      have huj : (uix l).toNat < rows.length := by omega
      have xh := hdrs_at hhs huj
      rw [List.getElem?_eq_getElem huj] at hget
      have hget := Option.some.inj hget
      refine g_rowA hhs huj (.there .here) ?_
      rw [hget]
      have hlen2 : (hdrs hs rows).length = rows.length := hdrs_len hhs
      have hset := fun g r => hdrs_set (hs := hs) (rows := rows) (uix l).toNat g r
      rw [hget] at xh
      generalize hhj : hs[(uix l).toNat]'(by omega) = hh0 at *
      obtain ⟨ra, rc⟩ := hh0
      refine g_own (e := 32) (size := 1) (a1 := some ⟨bu, 0, none⟩) (k := rows.length) (.there (.there .here)) (fun h _ _ _ => by cases h) ?_
      rintro gu curu hgu y1 y2 y3 y4 y5
      cases hgu
      have xu : curu[0 + (uix l).toNat * 1]? = some (.slice ra (cu.map encN).length rc) := own_at (k := (uix l).toNat) y4 rfl xh
      generalize hcn : cu.map encN = crow at *
      have hcl2 : crow.length = cu.length := by rw [← hcn, List.length_map]
      refine g_join (fun y : Option Addr × Nat => [(3, .pointer (some ⟨s, 0, none⟩)), (28, .slice ca F.length cc), (29, .int .i64 F.length), (30, .int .i64 i), (4, .int .i64 i), (35, .slice ai F[i].length ci), (36, .int .i64 F[i].length), (37, .int .i64 j)])
        (fun y => [Blk bu (.cells (curu.set (0 + (uix l).toNat * 1) (.slice y.1 (crow.length + 1) y.2)).toArray 32 (0, 0)), OwnSl 3 1 y.1 (crow.length + 1) y.2 (crow ++ [encN i]), Al ((inns 3 hs rows).eraseIdx (uix l).toNat), Blk s (.cells [.int .i64 n, .slice ca F.length cc, .slice (some ⟨bv, 0, none⟩) (n + 1) (n + 1), .slice none 0 0, .slice (some ⟨bu, 0, none⟩) (2 * n + 2) (2 * n + 2), .slice (some ⟨bx, 0, none⟩) F.length F.length, .int .i64 F.length, .int .i64 0].toArray 57 (0, 0)),
        Blk bv (.cells (List.replicate (n + 1) (Value.int .i64 0)).toArray 3 (0, 0)), Blk bx (.cells (List.replicate F.length (Value.int .i64 0)).toArray 3 (0, 0))]) (fun _ => True) ?_ ?_
      · refine m_begin (.fl 0 0 (.fl 1 0 (.fl 2 0 (.fl 3 1 (.fl 4 0 (.fl 6 0 (.fl 7 0 (.fl 8 0 (.fl 9 1 (.fl 10 0 (.fl 14 0 (.or (.ef 5 (.or (.ef 11 (.fl 12 0 (.fl 13 1 (.ef 15 (.ef 16 (.fl 17 0 (.ef 18 .done))))))) (.ef 15 (.ef 11 (.fl 12 0 (.fl 13 1 (.ef 16 (.fl 17 0 (.ef 18 .done))))))))) (.ef 15 (.ef 5 (.ef 11 (.fl 12 0 (.fl 13 1 (.ef 16 (.fl 17 0 (.ef 18 .done)))))))))))))))))))) [Blk bu (.cells curu.toArray 32 (0, 0)), Blk s (.cells [.int .i64 n, .slice ca F.length cc, .slice (some ⟨bv, 0, none⟩) (n + 1) (n + 1), .slice none 0 0, .slice (some ⟨bu, 0, none⟩) (2 * n + 2) (2 * n + 2), .slice (some ⟨bx, 0, none⟩) F.length F.length, .int .i64 F.length, .int .i64 0].toArray 57 (0, 0))] (by kernel_rfl) (by kernel_rfl) (by repeat' (first | exact Cover.nil | exact Take.here | apply Cover.cons | apply Take.there)) ?_
        refine m_float0 rfl (fun _ _ => p_move rfl) rfl ?_
        refine m_float0 rfl (fun _ _ => p_nilCheck rfl) rfl ?_
        refine m_float0 rfl (fun _ _ => p_fieldAddr rfl) rfl ?_
        refine m_float rfl (p_load (by rfl) rfl (by first | (apply Has.own; (repeat' (first | exact Take.here | apply Take.there)); done) | exact Has.ro (by assumption)) (by first | rfl | assumption)) rfl ?_
        refine m_float0 rfl (fun _ _ => p_move rfl) rfl ?_
        refine m_float0 rfl (fun _ _ => p_move rfl) rfl ?_
        refine m_float0 rfl (fun _ _ => p_nilCheck rfl) rfl ?_
        refine m_float0 rfl (fun _ _ => p_fieldAddr rfl) rfl ?_
        refine m_float rfl (p_load (by rfl) rfl (by first | (apply Has.own; (repeat' (first | exact Take.here | apply Take.there)); done) | exact Has.ro (by assumption)) (by first | rfl | assumption)) rfl ?_
        refine m_float0 rfl (fun _ _ => p_move rfl) rfl ?_
        refine m_float0 rfl (fun _ _ => p_move rfl) rfl ?_
        refine m_or ?_ ?_
        · refine m_call (Hin := []) (Hr := ?hr1) (R := ?rr1) rfl wantedN rfl rfl rfl ?hin1 ?hc1 ?hk1
          case hin1 => repeat' (first | exact Cover.nil | exact Take.here | apply Cover.cons | apply Take.there)
          case hc1 => intro ρ' hρ hR; exact index_ok l (by omega)
          rintro _ _ ⟨rfl, rfl⟩
          refine ⟨.some (by repeat' (first | exact Cover.nil | exact Take.here | apply Cover.cons | apply Take.there)), ?_⟩
          refine m_or ?_ ?_
          · refine m_call (Hin := []) (Hr := ?hr2) (R := ?rr2) rfl wantedN rfl rfl rfl ?hin2 ?hc2 ?hk2
            case hin2 => repeat' (first | exact Cover.nil | exact Take.here | apply Cover.cons | apply Take.there)
            case hc2 => intro ρ' hρ hR; exact index_ok l (by omega)
            rintro _ _ ⟨rfl, rfl⟩
            refine ⟨.some (by repeat' (first | exact Cover.nil | exact Take.here | apply Cover.cons | apply Take.there)), ?_⟩
            refine m_float0 rfl (fun _ _ => p_indexAddr rfl rfl (by omega) (fun _ => rfl)) rfl ?_
            refine m_float rfl (p_load (by rfl) rfl (Has.own (by repeat' (first | exact Take.here | apply Take.there))) xu) rfl ?_
            refine m_eff rfl (e_bs (xs := [.tmp 55]) rfl rfl rfl (by rfl) (by rfl) rfl (by rfl)) rfl (fun _ _ => ?_)
            rintro ⟨b56, rfl, rfl⟩
            refine ⟨.some (by repeat' (first | exact Cover.nil | exact Take.here | apply Cover.cons | apply Take.there)), ?_⟩
            refine m_eff rfl (e_appendO (by rfl) (by rfl) rfl rfl (by first | (apply Has.own; (repeat' (first | exact Take.here | apply Take.there)); done) | exact Has.ro (by assumption)) (by rfl) (by rfl) (by repeat' (first | exact Take.here | apply Take.there)) (by omega) (by first | omega | (dsimp only; omega) | (simp <;> omega)) (by omega)) rfl (fun _ _ => ?_)
            rintro ⟨a57, c57, rfl, rfl⟩
            refine ⟨.some (by repeat' (first | exact Cover.nil | exact Take.here | apply Cover.cons | apply Take.there)), ?_⟩
            refine m_float0 rfl (fun _ _ => p_indexAddr rfl rfl (by omega) (fun _ => rfl)) rfl ?_
            refine m_eff0 rfl (e_store1 (by rfl) rfl rfl rfl (by repeat' (first | exact Take.here | apply Take.there)) (by simp; omega)) (fun _ _ => ?_)
            rintro rfl
            refine ⟨.none (by kernel_rfl), ?_⟩
            refine m_nil ?_
            refine g_qn ?_
            exact g_joined (a57, c57) (by repeat (first | exact trivial | refine ⟨by rfl, ?_⟩)) (by repeat' (first | exact Cover.nil | exact Take.here | apply Cover.cons | apply Take.there)) trivial
          refine m_eff rfl (e_bs (xs := [.tmp 55]) rfl rfl rfl (by rfl) (by rfl) rfl (by rfl)) rfl (fun _ _ => ?_)
          rintro ⟨b56, rfl, rfl⟩
          refine ⟨.some (by repeat' (first | exact Cover.nil | exact Take.here | apply Cover.cons | apply Take.there)), ?_⟩
          refine m_call (Hin := []) (Hr := ?hr3) (R := ?rr3) rfl wantedN rfl rfl rfl ?hin3 ?hc3 ?hk3
          case hin3 => repeat' (first | exact Cover.nil | exact Take.here | apply Cover.cons | apply Take.there)
          case hc3 => intro ρ' hρ hR; exact index_ok l (by omega)
          rintro _ _ ⟨rfl, rfl⟩
          refine ⟨.some (by repeat' (first | exact Cover.nil | exact Take.here | apply Cover.cons | apply Take.there)), ?_⟩
          refine m_float0 rfl (fun _ _ => p_indexAddr rfl rfl (by omega) (fun _ => rfl)) rfl ?_
          refine m_float rfl (p_load (by rfl) rfl (Has.own (by repeat' (first | exact Take.here | apply Take.there))) xu) rfl ?_
          refine m_eff rfl (e_appendO (by rfl) (by rfl) rfl rfl (by first | (apply Has.own; (repeat' (first | exact Take.here | apply Take.there)); done) | exact Has.ro (by assumption)) (by rfl) (by rfl) (by repeat' (first | exact Take.here | apply Take.there)) (by omega) (by first | omega | (dsimp only; omega) | (simp <;> omega)) (by omega)) rfl (fun _ _ => ?_)
          rintro ⟨a57, c57, rfl, rfl⟩
          refine ⟨.some (by repeat' (first | exact Cover.nil | exact Take.here | apply Cover.cons | apply Take.there)), ?_⟩
          refine m_float0 rfl (fun _ _ => p_indexAddr rfl rfl (by omega) (fun _ => rfl)) rfl ?_
          refine m_eff0 rfl (e_store1 (by rfl) rfl rfl rfl (by repeat' (first | exact Take.here | apply Take.there)) (by simp; omega)) (fun _ _ => ?_)
          rintro rfl
          refine ⟨.none (by kernel_rfl), ?_⟩
          refine m_nil ?_
          refine g_qn ?_
          exact g_joined (a57, c57) (by repeat (first | exact trivial | refine ⟨by rfl, ?_⟩)) (by repeat' (first | exact Cover.nil | exact Take.here | apply Cover.cons | apply Take.there)) trivial
        refine m_eff rfl (e_bs (xs := [.tmp 55]) rfl rfl rfl (by rfl) (by rfl) rfl (by rfl)) rfl (fun _ _ => ?_)
        rintro ⟨b56, rfl, rfl⟩
        refine ⟨.some (by repeat' (first | exact Cover.nil | exact Take.here | apply Cover.cons | apply Take.there)), ?_⟩
        refine m_call (Hin := []) (Hr := ?hr4) (R := ?rr4) rfl wantedN rfl rfl rfl ?hin4 ?hc4 ?hk4
        case hin4 => repeat' (first | exact Cover.nil | exact Take.here | apply Cover.cons | apply Take.there)
        case hc4 => intro ρ' hρ hR; exact index_ok l (by omega)
        rintro _ _ ⟨rfl, rfl⟩
        refine ⟨.some (by repeat' (first | exact Cover.nil | exact Take.here | apply Cover.cons | apply Take.there)), ?_⟩
        refine m_call (Hin := []) (Hr := ?hr5) (R := ?rr5) rfl wantedN rfl rfl rfl ?hin5 ?hc5 ?hk5
        case hin5 => repeat' (first | exact Cover.nil | exact Take.here | apply Cover.cons | apply Take.there)
        case hc5 => intro ρ' hρ hR; exact index_ok l (by omega)
        rintro _ _ ⟨rfl, rfl⟩
        refine ⟨.some (by repeat' (first | exact Cover.nil | exact Take.here | apply Cover.cons | apply Take.there)), ?_⟩
        refine m_float0 rfl (fun _ _ => p_indexAddr rfl rfl (by omega) (fun _ => rfl)) rfl ?_
        refine m_float rfl (p_load (by rfl) rfl (Has.own (by repeat' (first | exact Take.here | apply Take.there))) xu) rfl ?_
        refine m_eff rfl (e_appendO (by rfl) (by rfl) rfl rfl (by first | (apply Has.own; (repeat' (first | exact Take.here | apply Take.there)); done) | exact Has.ro (by assumption)) (by rfl) (by rfl) (by repeat' (first | exact Take.here | apply Take.there)) (by omega) (by first | omega | (dsimp only; omega) | (simp <;> omega)) (by omega)) rfl (fun _ _ => ?_)
        rintro ⟨a57, c57, rfl, rfl⟩
        refine ⟨.some (by repeat' (first | exact Cover.nil | exact Take.here | apply Cover.cons | apply Take.there)), ?_⟩
        refine m_float0 rfl (fun _ _ => p_indexAddr rfl rfl (by omega) (fun _ => rfl)) rfl ?_
        refine m_eff0 rfl (e_store1 (by rfl) rfl rfl rfl (by repeat' (first | exact Take.here | apply Take.there)) (by simp; omega)) (fun _ _ => ?_)
        rintro rfl
        refine ⟨.none (by kernel_rfl), ?_⟩
        refine m_nil ?_
        refine g_qn ?_
        exact g_joined (a57, c57) (by repeat (first | exact trivial | refine ⟨by rfl, ?_⟩)) (by repeat' (first | exact Cover.nil | exact Take.here | apply Cover.cons | apply Take.there)) trivial
      rintro ⟨a57, c57⟩ -
      dsimp only
      refine g_qb ?_
      refine g_qt ?_
      refine g_region ?_
      first | refine g_pure (p_addi rfl rfl (by omega)) rfl ?_ | refine g_pure (p_add rfl rfl) rfl ?_
      refine g_pure (p_move rfl) rfl ?_
      refine g_nil ?_
      refine g_qn ?_
      have hst := hstep (crow ++ [encN i]) rfl
      refine g_fold (k := (rows.set (uix l).toNat (crow ++ [encN i])).length) (cap := 2 * n + 2) (size := 1) (g := bu) (xs := hdrs (hs.set (uix l).toNat (a57, c57)) (rows.set (uix l).toNat (crow ++ [encN i]))) .here (by simp; omega) y2 (by simp; omega) ?_ ?_
      · rw [hset, List.length_set]
        refine set_take y4 ?_
        rw [show 0 + (uix l).toNat * 1 = (uix l).toNat by omega]
        congr 1
        simp [hdr]
      refine g_unrowA (a := a57) (c := c57) (r := crow ++ [encN i]) hhs huj (by simp only [List.length_append, List.length_singleton]; exact (by repeat' (first | exact Take.here | apply Take.there))) (by repeat' (first | exact Take.here | apply Take.there)) ?_
      refine g_close2 (hs := hs.set (uix l).toNat (a57, c57)) (rows := rows.set (uix l).toNat (crow ++ [encN i])) (by simp; omega) (by repeat' (first | exact Take.here | apply Take.there)) (by repeat' (first | exact Take.here | apply Take.there)) ?_
      rw [hst]
      exact g_next (j + 1) (by repeat (first | exact trivial | refine ⟨by rfl, ?_⟩)) (by repeat' (first | exact Cover.nil | exact Take.here | apply Cover.cons | apply Take.there)) (by omega) (by omega)
    · have hje : j = F[i].length := by omega
      rw [hje, List.take_length, show F.take i ++ [F[i]] = F.take (i + 1) by rw [List.take_add_one, List.getElem?_eq_getElem hil, Option.toList_some]]
      refine g_exit ?_
      refine g_qt_exit ?_
      refine g_qn_exit ?_
      refine g_qb_exit ?_
      refine g_qb ?_
      refine g_qt ?_
      refine g_region ?_
      first | refine g_pure (p_addi rfl rfl (by omega)) rfl ?_ | refine g_pure (p_add rfl rfl) rfl ?_
      refine g_pure (p_move rfl) rfl ?_
      refine g_nil ?_
      refine g_qn ?_
      exact g_next (i + 1) (by repeat (first | exact trivial | refine ⟨by rfl, ?_⟩)) (by repeat' (first | exact Cover.nil | exact Take.here | apply Cover.cons | apply Take.there)) (by omega) (by omega)
  · have hie : i = F.length := by omega
    rw [hie, List.take_length]
    refine g_exit ?_
    refine g_qt_exit ?_
    refine g_qn_exit ?_
    refine g_qb_exit ?_
    refine g_qt ?_
    refine g_seq ?_
    refine g_region ?_
    refine g_pure (p_move rfl) rfl ?_
    refine g_pure (p_assign rfl) rfl ?_
    refine g_nil ?_
    refine g_qt ?_
    refine g_ret ?_
    refine g_fold (k := n + 1) (cap := n + 1) (size := 1) (g := bv) (xs := List.replicate (n + 1) (Value.int .i64 0)) (by repeat' (first | exact Take.here | apply Take.there)) (Nat.le_refl _) (by omega) (by simp) (List.take_of_length_le (by simp)) ?_
    refine g_fold (k := F.length) (cap := F.length) (size := 1) (g := bx) (xs := List.replicate F.length (Value.int .i64 0)) (by repeat' (first | exact Take.here | apply Take.there)) (Nat.le_refl _) (by omega) (by simp) (List.take_of_length_le (by simp)) ?_
    refine g_ownnil (e := 3) (size := 1) ?_
    refine sv_close (p := ⟨n, ca, cc, F.length, some ⟨bu, 0, none⟩, 2 * n + 2⟩) (V := fun _ => none) (T := []) (X := trues F (fun _ => none)) (d := 0) (e := F.length) (xs1 := List.replicate (n + 1) (Value.int .i64 0)) (xs3 := List.replicate F.length (Value.int .i64 0)) (xs2 := []) (k1 := 0) (d' := 0) (by repeat' (first | exact Cover.nil | exact Take.here | apply Cover.cons | apply Take.there)) rfl (by rw [trues_none, List.count_replicate_self]) rfl (vcells_none n).symm rfl (by rw [trues_none, List.map_replicate]; rfl) ?_
    exact g_post (rs := [.tmp 2]) rfl (.tmp rfl .nil) ⟨s, ⟨n, ca, cc, F.length, some ⟨bu, 0, none⟩, 2 * n + 2⟩, rfl, rfl, rfl, rfl, rfl⟩ (by repeat' (first | exact Cover.nil | exact Take.here | apply Cover.cons | apply Take.there))
end Go.Proofs.Ytbpgblbhikeglaa
