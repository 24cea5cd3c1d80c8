/- Chapter 40: intervals: bound numbers. Conditions: none. -/
import Derived.Test.YtlcipnligbjclabF6
namespace Go.Z.Val
set_option linter.unusedVariables false
set_option linter.unusedSimpArgs false
set_option linter.unusedSectionVars false
open Go Go.Z
theorem pow_big (j : Nat) : (32768 : Int) ≤ 2 ^ (15 + j) := by
  induction j with
  | zero => decide
  | succ j ih => rw [show 15 + (j + 1) = (15 + j) + 1 by omega, Int.pow_succ]; omega
theorem pow_big2 (j : Nat) : (65536 : Int) ≤ 2 ^ (16 + j) := by
  have := pow_big j
  rw [show 16 + j = (15 + j) + 1 by omega, Int.pow_succ]; omega
theorem pow_k {k : Nat} (h : (2 : Int) ^ k ≤ 32767) : k ≤ 14 := by
  by_cases hk : k ≤ 14
  · exact hk
  · have := pow_big (k - 15)
    rw [show 15 + (k - 15) = k by omega] at this; omega
theorem pow_k2 {k : Nat} (h : (2 : Int) ^ k ≤ 65535) : k ≤ 15 := by
  by_cases hk : k ≤ 15
  · exact hk
  · have := pow_big2 (k - 16)
    rw [show 16 + (k - 16) = k by omega] at this; omega
theorem pow_pos2 (k : Nat) : (1 : Int) ≤ 2 ^ k := by
  induction k with
  | zero => decide
  | succ k ih => rw [Int.pow_succ]; omega
theorem mem_le : ∀ m ∈ boundsL, m ≤ 32767 := by decide
theorem mem_ge : ∀ m ∈ boundsL, -32768 ≤ m := by decide
theorem mem_top : ∀ m ∈ boundsL, m < 32767 → m ≤ 16384 := by decide
theorem lo_top {v : Int} (h : 32767 ≤ v) : loS v = 32767 := loS_at (by decide) h fun m hm h2 => by have := mem_le m hm; omega
theorem lo_pos {v : Int} {k : Nat} (h1 : (2 : Int) ^ k ≤ v) (h2 : ¬ 2 * (2 : Int) ^ k ≤ v) (h3 : v < 32767) : loS v = 2 ^ k := by
  have hk := pow_k (k := k) (by omega)
  obtain ⟨p1, _, p3, _⟩ := pow_mem k hk
  exact loS_at p1 h1 fun m hm hlt => by have := p3 m hm hlt; omega
theorem lo_neg {v : Int} {k : Nat} (h1 : -(2 : Int) ^ k ≤ v) (h2 : 2 * v < -(2 : Int) ^ k) (h3 : -32768 ≤ v) : loS v = -(2 : Int) ^ k := by
  have hk := pow_k2 (k := k) (by omega)
  by_cases h4 : k ≤ 14
  · obtain ⟨_, p2, _, _, p5, _⟩ := pow_mem k h4
    exact loS_at p2 h1 fun m hm hlt => by have := p5 m hm hlt; omega
  · obtain rfl : k = 15 := by omega
    refine loS_at (by decide) h1 fun m hm hlt => ?_
    have : ∀ m ∈ boundsL, -(2 : Int) ^ 15 < m → -(2 : Int) ^ 15 ≤ 2 * m := by decide
    have := this m hm hlt; omega
theorem hi_top {v : Int} (h : 16384 < v) (h2 : v ≤ 32767) : hiS v = 32767 := hiS_at (by decide) h2 fun m hm hlt => by have := mem_top m hm hlt; omega
theorem hi_bot {v : Int} (h : v ≤ -32768) : hiS v = -32768 := hiS_at (by decide) h fun m hm hlt => by have := mem_ge m hm; omega
theorem hi_pos {v : Int} {k : Nat} (h1 : v ≤ (2 : Int) ^ k) (h2 : (2 : Int) ^ k < 2 * v) (h3 : v ≤ 16384) : hiS v = 2 ^ k := by
  have hk := pow_k (k := k) (by omega)
  obtain ⟨p1, _, _, p4, _⟩ := pow_mem k hk
  exact hiS_at p1 h1 fun m hm hlt => by have := p4 m hm hlt; omega
/-- the number ahead of -(2^k) -/
def nK : Nat → Int
  | 0 => 0
  | k + 1 => -(2 : Int) ^ k
theorem hi_neg {v : Int} {k : Nat} (h1 : v ≤ nK k) (h2 : ¬ v ≤ -(2 : Int) ^ k) (h3 : -32768 < v) : hiS v = nK k := by
  cases k with
  | zero =>
    refine hiS_at (by decide) h1 fun m hm hlt => ?_
    have : ∀ m ∈ boundsL, m < 0 → m ≤ -1 := by decide
    have := this m hm hlt
    simp at h2; omega
  | succ k =>
    have h1' : v ≤ -(2 : Int) ^ k := h1
    have hk := pow_k (k := k) (by omega)
    obtain ⟨_, p2, _, _, _, p6⟩ := pow_mem k hk
    refine hiS_at p2 h1 fun m hm hlt => ?_
    have := p6 m hm hlt
    rw [Int.pow_succ] at h2; omega
def kA (j : Nat) : Int := if j < 15 then 2 ^ (14 - j) else 0
def kB (j : Nat) : Int := 2 ^ j
theorem kA_step (j : Nat) (h : j < 15) : boundsL.take (j + 2) = boundsL.take (j + 1) ++ [-(kA j)] ∧ kA j / 2 = kA (j + 1) ∧ 1 ≤ kA j ∧ kA j ≤ 16384 := by
  have key : ∀ j : Fin 15, boundsL.take (j.val + 2) = boundsL.take (j.val + 1) ++ [-(kA j.val)] ∧ kA j.val / 2 = kA (j.val + 1) ∧ 1 ≤ kA j.val ∧ kA j.val ≤ 16384 := by decide
  exact key ⟨j, h⟩
theorem kB_step (j : Nat) (h : j < 15) : boundsL.take (j + 18) = boundsL.take (j + 17) ++ [kB j] ∧ 2 * kB j = kB (j + 1) ∧ 1 ≤ kB j ∧ kB j ≤ 16384 := by
  have key : ∀ j : Fin 15, boundsL.take (j.val + 18) = boundsL.take (j.val + 17) ++ [kB j.val] ∧ 2 * kB j.val = kB (j.val + 1) ∧ 1 ≤ kB j.val ∧ kB j.val ≤ 16384 := by decide
  exact key ⟨j, h⟩
end Go.Z.Val
namespace Go.Proofs.Ytlcipnligbjclab
open Go Go.Z Go.Z.Val

theorem below_ok {ρ : Nat → Obj → Prop} (v : Int) : Con Try.prog ρ 26 #[.int .i64 v] [] (fun u H => u = .int .i64 (loS v) ∧ H = []) := by
  refine con_intro Try.func26 Try.call26 rfl Try.ntmps26 rfl (L := [(0, _)]) rfl fun w hh => ?_
  refine g_seq ?_
  refine g_region ?_
  refine g_pure (p_assign rfl) rfl ?_
  refine g_nil ?_
  refine g_qt ?_
  refine g_seq ?_
  refine g_block ?_
  refine g_seq ?_
  refine g_region ?_
  refine g_pure (p_move rfl) rfl ?_
  refine g_pure (p_lss rfl rfl) rfl ?_
  refine g_pure (p_assign rfl) rfl ?_
  refine g_nil ?_
  refine g_qt ?_
  refine g_ifd rfl (fun h1 => ?_) (fun h1 => ?_)
  · refine g_seq ?_
    refine g_region ?_
    refine g_pure (p_move rfl) rfl ?_
    refine g_pure (p_assign rfl) rfl ?_
    refine g_nil ?_
    refine g_qt ?_
    refine g_ret ?_
    refine g_qb_ret ?_
    refine g_qt_ret ?_
    exact g_post (Ho := []) (rs := [.tmp 2]) rfl (.tmp rfl .nil) ⟨by rw [loS_out h1]; rfl, rfl⟩ (by repeat' (first | exact Cover.nil | exact Take.here | apply Cover.cons | apply Take.there))
  · refine g_seq ?_
    refine g_region ?_
    refine g_pure (p_move rfl) rfl ?_
    refine g_pure (p_geq rfl rfl) rfl ?_
    refine g_pure (p_assign rfl) rfl ?_
    refine g_nil ?_
    refine g_qt ?_
    refine g_ifd rfl (fun h2 => ?_) (fun h2 => ?_)
    · refine g_seq ?_
      refine g_region ?_
      refine g_pure (p_assign rfl) rfl ?_
      refine g_nil ?_
      refine g_qt ?_
      refine g_ret ?_
      refine g_qb_ret ?_
      refine g_qt_ret ?_
      exact g_post (Ho := []) (rs := [.tmp 2]) rfl (.tmp rfl .nil) ⟨by rw [lo_top h2]; rfl, rfl⟩ (by repeat' (first | exact Cover.nil | exact Take.here | apply Cover.cons | apply Take.there))
    · refine g_seq ?_
      refine g_region ?_
      refine g_pure (p_move rfl) rfl ?_
      refine g_pure (p_gtr rfl rfl) rfl ?_
      refine g_pure (p_assign rfl) rfl ?_
      refine g_nil ?_
      refine g_qt ?_
      refine g_ifd rfl (fun h3 => ?_) (fun h3 => ?_)
      · refine g_seq ?_
        refine g_region ?_
        refine g_pure (p_assign rfl) rfl ?_
        refine g_nil ?_
        refine g_qt ?_
        refine g_seq ?_
        refine g_block ?_
        refine g_loop (fun k : Nat => [(0, .int .i64 v), (3, .int .i64 ((2 : Int) ^ k))]) (fun _ => []) (fun k => (2 : Int) ^ k ≤ v) (fun k => 15 - k) 0 (by show (1 : Int) ≤ v; omega) (by (repeat (first | exact trivial | refine ⟨by rfl, ?_⟩)); done) .nil fun k hk => ?_
        have hp := pow_pos2 k
        refine g_seq ?_
        refine g_seq ?_
        refine g_region ?_
        refine g_pure (p_move rfl) rfl ?_
        first | refine g_pure (p_muli rfl rfl (by omega)) rfl ?_ | refine g_pure (p_mul rfl rfl) rfl ?_
        refine g_pure (p_move rfl) rfl ?_
        refine g_pure (p_leq rfl rfl) rfl ?_
        refine g_nil ?_
        refine g_qt ?_
        refine g_ifd rfl (fun h4 => ?_) (fun h4 => ?_)
        · refine g_skip ?_
          refine g_qt ?_
          refine g_block ?_
          refine g_region ?_
          refine g_pure (p_move rfl) rfl ?_
          first | refine g_pure (p_muli rfl rfl (by omega)) rfl ?_ | refine g_pure (p_mul rfl rfl) rfl ?_
          refine g_pure (p_assign rfl) rfl ?_
          refine g_nil ?_
          refine g_qb ?_
          refine g_qn ?_
          rw [← Int.pow_succ]
          have hk1 : (2 : Int) ^ (k + 1) ≤ v := by rw [Int.pow_succ]; omega
          exact g_next (k + 1) (by (repeat (first | exact trivial | refine ⟨by rfl, ?_⟩)); done) .nil hk1 (by have := pow_k (k := k + 1) (by omega); omega)
        · refine g_exit ?_
          refine g_qt_exit ?_
          refine g_qn_exit ?_
          refine g_qb_exit ?_
          refine g_qt ?_
          refine g_seq ?_
          refine g_region ?_
          refine g_pure (p_move rfl) rfl ?_
          refine g_pure (p_assign rfl) rfl ?_
          refine g_nil ?_
          refine g_qt ?_
          refine g_ret ?_
          refine g_qb_ret ?_
          refine g_qt_ret ?_
          exact g_post (Ho := []) (rs := [.tmp 2]) rfl (.tmp rfl .nil) ⟨by rw [lo_pos hk h4 (by omega)]; rfl, rfl⟩ (by repeat' (first | exact Cover.nil | exact Take.here | apply Cover.cons | apply Take.there))
      · refine g_seq ?_
        refine g_region ?_
        refine g_pure (p_move rfl) rfl ?_
        refine g_pure (p_eql rfl rfl) rfl ?_
        refine g_pure (p_assign rfl) rfl ?_
        refine g_nil ?_
        refine g_qt ?_
        refine g_ifd rfl (fun h5 => ?_) (fun h5 => ?_)
        · refine g_seq ?_
          refine g_region ?_
          refine g_pure (p_assign rfl) rfl ?_
          refine g_nil ?_
          refine g_qt ?_
          refine g_ret ?_
          refine g_qb_ret ?_
          refine g_qt_ret ?_
          exact g_post (Ho := []) (rs := [.tmp 2]) rfl (.tmp rfl .nil) ⟨by rw [h5]; rfl, rfl⟩ (by repeat' (first | exact Cover.nil | exact Take.here | apply Cover.cons | apply Take.there))
        · refine g_skip ?_
          refine g_qb ?_
          refine g_qt ?_
          refine g_seq ?_
          refine g_region ?_
          refine g_pure (p_assign rfl) rfl ?_
          refine g_nil ?_
          refine g_qt ?_
          refine g_seq ?_
          refine g_block ?_
          refine g_loop (fun k : Nat => [(0, .int .i64 v), (4, .int .i64 (-(2 : Int) ^ k))]) (fun _ => []) (fun k => 2 * v < -(2 : Int) ^ k) (fun k => 16 - k) 0 (by show 2 * v < -1; omega) (by (repeat (first | exact trivial | refine ⟨by rfl, ?_⟩)); done) .nil fun k hk => ?_
          have hp := pow_pos2 k
          refine g_seq ?_
          refine g_seq ?_
          refine g_region ?_
          refine g_pure (p_move rfl) rfl ?_
          refine g_pure (p_move rfl) rfl ?_
          refine g_pure (p_gtr rfl rfl) rfl ?_
          refine g_nil ?_
          refine g_qt ?_
          refine g_ifd rfl (fun h4 => ?_) (fun h4 => ?_)
          · refine g_skip ?_
            refine g_qt ?_
            refine g_block ?_
            refine g_region ?_
            refine g_pure (p_move rfl) rfl ?_
            first | refine g_pure (p_muli rfl rfl (by omega)) rfl ?_ | refine g_pure (p_mul rfl rfl) rfl ?_
            refine g_pure (p_assign rfl) rfl ?_
            refine g_nil ?_
            refine g_qb ?_
            refine g_qn ?_
            have e : -(2 : Int) ^ k * 2 = -(2 : Int) ^ (k + 1) := by rw [Int.pow_succ]; omega
            rw [e]
            have hk1 : 2 * v < -(2 : Int) ^ (k + 1) := by rw [Int.pow_succ]; omega
            exact g_next (k + 1) (by (repeat (first | exact trivial | refine ⟨by rfl, ?_⟩)); done) .nil hk1 (by have := pow_k2 (k := k) (by omega); omega)
          · refine g_exit ?_
            refine g_qt_exit ?_
            refine g_qn_exit ?_
            refine g_qb_exit ?_
            refine g_qt ?_
            refine g_seq ?_
            refine g_region ?_
            refine g_pure (p_move rfl) rfl ?_
            refine g_pure (p_assign rfl) rfl ?_
            refine g_nil ?_
            refine g_qt ?_
            refine g_ret ?_
            exact g_post (Ho := []) (rs := [.tmp 2]) rfl (.tmp rfl .nil) ⟨by rw [lo_neg (k := k) (by omega) hk (by omega)]; rfl, rfl⟩ (by repeat' (first | exact Cover.nil | exact Take.here | apply Cover.cons | apply Take.there))

theorem above_ok {ρ : Nat → Obj → Prop} (v : Int) : Con Try.prog ρ 27 #[.int .i64 v] [] (fun u H => u = .int .i64 (hiS v) ∧ H = []) := by
  refine con_intro Try.func27 Try.call27 rfl Try.ntmps27 rfl (L := [(0, _)]) rfl fun w hh => ?_
  refine g_seq ?_
  refine g_region ?_
  refine g_pure (p_assign rfl) rfl ?_
  refine g_nil ?_
  refine g_qt ?_
  refine g_seq ?_
  refine g_seq ?_
  refine g_region ?_
  refine g_pure (p_move rfl) rfl ?_
  refine g_pure (p_gtr rfl rfl) rfl ?_
  refine g_nil ?_
  refine g_qt ?_
  refine g_ifd rfl (fun h1 => ?_) (fun h1 => ?_)
  · refine g_seq ?_
    refine g_region ?_
    refine g_pure (p_move rfl) rfl ?_
    refine g_pure (p_assign rfl) rfl ?_
    refine g_nil ?_
    refine g_qt ?_
    refine g_ret ?_
    refine g_qt_ret ?_
    exact g_post (Ho := []) (rs := [.tmp 2]) rfl (.tmp rfl .nil) ⟨by rw [hiS_out h1]; rfl, rfl⟩ (by repeat' (first | exact Cover.nil | exact Take.here | apply Cover.cons | apply Take.there))
  · refine g_skip ?_
    refine g_qt ?_
    refine g_seq ?_
    refine g_seq ?_
    refine g_region ?_
    refine g_pure (p_move rfl) rfl ?_
    refine g_pure (p_gtr rfl rfl) rfl ?_
    refine g_nil ?_
    refine g_qt ?_
    refine g_ifd rfl (fun h2 => ?_) (fun h2 => ?_)
    · refine g_seq ?_
      refine g_region ?_
      refine g_pure (p_assign rfl) rfl ?_
      refine g_nil ?_
      refine g_qt ?_
      refine g_ret ?_
      refine g_qt_ret ?_
      exact g_post (Ho := []) (rs := [.tmp 2]) rfl (.tmp rfl .nil) ⟨by rw [hi_top h2 (by omega)]; rfl, rfl⟩ (by repeat' (first | exact Cover.nil | exact Take.here | apply Cover.cons | apply Take.there))
    · refine g_skip ?_
      refine g_qt ?_
      refine g_seq ?_
      refine g_seq ?_
      refine g_region ?_
      refine g_pure (p_move rfl) rfl ?_
      refine g_pure (p_gtr rfl rfl) rfl ?_
      refine g_nil ?_
      refine g_qt ?_
      refine g_ifd rfl (fun h3 => ?_) (fun h3 => ?_)
      · refine g_seq ?_
        refine g_region ?_
        refine g_pure (p_assign rfl) rfl ?_
        refine g_nil ?_
        refine g_qt ?_
        refine g_seq ?_
        refine g_block ?_
        refine g_loop (fun k : Nat => [(0, .int .i64 v), (3, .int .i64 ((2 : Int) ^ k))]) (fun _ => []) (fun k => (2 : Int) ^ k < 2 * v) (fun k => 15 - k) 0 (by show (1 : Int) < 2 * v; omega) (by (repeat (first | exact trivial | refine ⟨by rfl, ?_⟩)); done) .nil fun k hk => ?_
        have hp := pow_pos2 k
        refine g_seq ?_
        refine g_seq ?_
        refine g_region ?_
        refine g_pure (p_move rfl) rfl ?_
        refine g_pure (p_move rfl) rfl ?_
        refine g_pure (p_lss rfl rfl) rfl ?_
        refine g_nil ?_
        refine g_qt ?_
        refine g_ifd rfl (fun h4 => ?_) (fun h4 => ?_)
        · refine g_skip ?_
          refine g_qt ?_
          refine g_block ?_
          refine g_region ?_
          refine g_pure (p_move rfl) rfl ?_
          first | refine g_pure (p_muli rfl rfl (by omega)) rfl ?_ | refine g_pure (p_mul rfl rfl) rfl ?_
          refine g_pure (p_assign rfl) rfl ?_
          refine g_nil ?_
          refine g_qb ?_
          refine g_qn ?_
          rw [← Int.pow_succ]
          have hk1 : (2 : Int) ^ (k + 1) < 2 * v := by rw [Int.pow_succ]; omega
          exact g_next (k + 1) (by (repeat (first | exact trivial | refine ⟨by rfl, ?_⟩)); done) .nil hk1 (by have := pow_k (k := k) (by omega); omega)
        · refine g_exit ?_
          refine g_qt_exit ?_
          refine g_qn_exit ?_
          refine g_qb_exit ?_
          refine g_qt ?_
          refine g_seq ?_
          refine g_region ?_
          refine g_pure (p_move rfl) rfl ?_
          refine g_pure (p_assign rfl) rfl ?_
          refine g_nil ?_
          refine g_qt ?_
          refine g_ret ?_
          refine g_qt_ret ?_
          exact g_post (Ho := []) (rs := [.tmp 2]) rfl (.tmp rfl .nil) ⟨by rw [hi_pos (k := k) (by omega) hk (by omega)]; rfl, rfl⟩ (by repeat' (first | exact Cover.nil | exact Take.here | apply Cover.cons | apply Take.there))
      · refine g_skip ?_
        refine g_qt ?_
        refine g_seq ?_
        refine g_seq ?_
        refine g_region ?_
        refine g_pure (p_move rfl) rfl ?_
        refine g_pure (p_leq rfl rfl) rfl ?_
        refine g_nil ?_
        refine g_qt ?_
        refine g_ifd rfl (fun h5 => ?_) (fun h5 => ?_)
        · refine g_seq ?_
          refine g_region ?_
          refine g_pure (p_assign rfl) rfl ?_
          refine g_nil ?_
          refine g_qt ?_
          refine g_ret ?_
          refine g_qt_ret ?_
          exact g_post (Ho := []) (rs := [.tmp 2]) rfl (.tmp rfl .nil) ⟨by rw [hi_bot h5]; rfl, rfl⟩ (by repeat' (first | exact Cover.nil | exact Take.here | apply Cover.cons | apply Take.there))
        · refine g_skip ?_
          refine g_qt ?_
          refine g_seq ?_
          refine g_region ?_
          refine g_pure (p_assign rfl) rfl ?_
          refine g_nil ?_
          refine g_qt ?_
          refine g_seq ?_
          refine g_seq ?_
          refine g_region ?_
          refine g_pure (p_assign rfl) rfl ?_
          refine g_nil ?_
          refine g_qt ?_
          refine g_block ?_
          refine g_loop (fun k : Nat => [(0, .int .i64 v), (4, .int .i64 (nK k)), (5, .int .i64 (-(2 : Int) ^ k))]) (fun _ => []) (fun k => v ≤ nK k) (fun k => 16 - k) 0 (by show v ≤ 0; omega) (by (repeat (first | exact trivial | refine ⟨by rfl, ?_⟩)); done) .nil fun k hk => ?_
          have hp := pow_pos2 k
          refine g_seq ?_
          refine g_seq ?_
          refine g_region ?_
          refine g_pure (p_move rfl) rfl ?_
          refine g_pure (p_move rfl) rfl ?_
          refine g_pure (p_geq rfl rfl) rfl ?_
          refine g_nil ?_
          refine g_qt ?_
          refine g_ifd rfl (fun h4 => ?_) (fun h4 => ?_)
          · refine g_skip ?_
            refine g_qt ?_
            refine g_seq ?_
            refine g_block ?_
            refine g_region ?_
            refine g_pure (p_move rfl) rfl ?_
            refine g_pure (p_assign rfl) rfl ?_
            refine g_nil ?_
            refine g_qb ?_
            refine g_qt ?_
            refine g_region ?_
            refine g_pure (p_move rfl) rfl ?_
            first | refine g_pure (p_muli rfl rfl (by omega)) rfl ?_ | refine g_pure (p_mul rfl rfl) rfl ?_
            refine g_pure (p_assign rfl) rfl ?_
            refine g_nil ?_
            refine g_qn ?_
            have e : -(2 : Int) ^ k * 2 = -(2 : Int) ^ (k + 1) := by rw [Int.pow_succ]; omega
            rw [e]
            exact g_next (k + 1) (by (repeat (first | exact trivial | refine ⟨by rfl, ?_⟩)); done) .nil h4 (by have := pow_k2 (k := k) (by omega); omega)
          · refine g_exit ?_
            refine g_qt_exit ?_
            refine g_qn_exit ?_
            refine g_qb_exit ?_
            refine g_qt ?_
            refine g_seq ?_
            refine g_region ?_
            refine g_pure (p_move rfl) rfl ?_
            refine g_pure (p_assign rfl) rfl ?_
            refine g_nil ?_
            refine g_qt ?_
            refine g_ret ?_
            exact g_post (Ho := []) (rs := [.tmp 2]) rfl (.tmp rfl .nil) ⟨by rw [hi_neg hk h4 (by omega)]; rfl, rfl⟩ (by repeat' (first | exact Cover.nil | exact Take.here | apply Cover.cons | apply Take.there))

end Go.Proofs.Ytlcipnligbjclab
