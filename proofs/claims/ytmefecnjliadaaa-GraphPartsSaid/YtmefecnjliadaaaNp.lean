/- Chapter 4: lists compared, few, has, holds. Conditions: none. -/
import Derived.Test.YtmefecnjliadaaaNn
namespace Go.Z.Gr
set_option maxRecDepth 8000
set_option linter.unusedVariables false
set_option linter.unusedSimpArgs false
set_option linter.unusedSectionVars false
open Go Go.Z
theorem take_eq_step {α : Type} {la lb : List α} {k : Nat} (h1 : k < la.length) (h2 : k < lb.length) (h : la.take k = lb.take k) (e : la[k] = lb[k]) : la.take (k + 1) = lb.take (k + 1) := by
  rw [List.take_add_one, List.take_add_one, h, List.getElem?_eq_getElem h1, List.getElem?_eq_getElem h2, e]
theorem getElem_ne {α : Type} {la lb : List α} {k : Nat} (h1 : k < la.length) (h2 : k < lb.length) (e : la[k] ≠ lb[k]) : la ≠ lb := fun h => by subst h; exact e rfl
/-- lists of lists that nobody writes -/
def LsR (ρ : Nat → Obj → Prop) (a : Option Addr) (ps : List (List Int)) : Prop := RSl2 ρ a (ps.map fun l => l.map encI)
theorem LsR.mono {ρ ρ' : Nat → Obj → Prop} {a : Option Addr} {ps : List (List Int)} (h : LsR ρ a ps) (s : ∀ b o, ρ b o → ρ' b o) : LsR ρ' a ps := RSl2.mono h s
theorem LsR.at {ρ : Nat → Obj → Prop} {a : Option Addr} {ps : List (List Int)} (h : LsR ρ a ps) {v : Nat} (hv : v < ps.length) :
    ∃ b off cs T fz ai ci, a = some ⟨b, off, none⟩ ∧ ρ b (.cells (cs : List Value).toArray T fz) ∧ cs[off + (v : Int).toNat * 1]? = some (.slice ai ps[v].length ci) ∧ RSl ρ 1 ai ps[v].length (ps[v].map encI) := by
  obtain ⟨b, off, cs, T, fz, h1, h2, h3⟩ := RSl2.at h (by rw [List.length_map]; omega)
  obtain ⟨ai, ci, h4, h5⟩ := h3 v (by rw [List.length_map]; exact hv)
  rw [List.getElem_map, List.length_map] at h4 h5
  exact ⟨b, off, cs, T, fz, ai, ci, h1, h2, by rw [Int.toNat_natCast, Nat.mul_one]; exact h4, h5⟩
end Go.Z.Gr
namespace Go.Proofs.Ytmefecnjliadaaa
set_option maxRecDepth 8000
set_option linter.unusedVariables false
set_option linter.unusedSimpArgs false
set_option linter.unusedSectionVars false
open Go Go.Z Go.Z.Gr
theorem same_ok {ρ : Nat → Obj → Prop} (a b : Option Addr) (ac bc : Nat) (la lb : List Int) (ha : RSl ρ 1 a la.length (la.map Z.encI)) (hb : RSl ρ 1 b lb.length (lb.map Z.encI)) (hl : la.length ≤ 9223372036854775807) :
    Con Try.prog ρ 12 #[.slice a la.length ac, .slice b lb.length bc] [] (fun v H => v = .bool (decide (la = lb)) ∧ H = []) := by
  refine con_intro Try.func12 Try.call12 rfl Try.ntmps12 rfl (L := [(0, _), (1, _)]) rfl fun w hh => ?_
  refine g_seq ?_
  refine g_region ?_
  refine g_pure (p_assign rfl) rfl ?_
  refine g_nil ?_
  refine g_qt ?_
  refine g_seq ?_
  refine g_seq ?_
  refine g_region ?_
  refine g_pure (p_move rfl) rfl ?_
  refine g_pure (p_len (by rfl) rfl) rfl ?_
  refine g_pure (p_move rfl) rfl ?_
  refine g_pure (p_len (by rfl) rfl) rfl ?_
  refine g_pure (p_neq rfl rfl) rfl ?_
  refine g_nil ?_
  refine g_qt ?_
  refine g_ifnd rfl (fun h1 => ?_) (fun h1 => ?_)
  · refine g_seq ?_
    refine g_region ?_
    refine g_pure (p_assign rfl) rfl ?_
    refine g_nil ?_
    refine g_qt ?_
    refine g_ret ?_
    refine g_qt_ret ?_
    exact g_post (rs := [.tmp 4]) rfl (.tmp rfl .nil) ⟨by rw [decide_eq_false (p := la = lb) (fun h => h1 (by rw [h]))]; rfl, rfl⟩ .nil
  · have hll : la.length = lb.length := by omega
    refine g_skip ?_
    refine g_qt ?_
    refine g_seq ?_
    refine g_seq ?_
    refine g_region ?_
    refine g_pure (p_assign rfl) rfl ?_
    refine g_nil ?_
    refine g_qt ?_
    refine g_block ?_
    refine g_loop (fun k : Nat => [(0, .slice a la.length ac), (1, .slice b lb.length bc), (4, .bool false), (5, .int .i64 k)]) (fun _ => []) (fun k => k ≤ la.length ∧ la.take k = lb.take k) (fun k => la.length - k) 0 ⟨Nat.zero_le _, rfl⟩ (by (repeat (first | exact trivial | refine ⟨by rfl, ?_⟩)); done) .nil ?_
    rintro k ⟨hk1, hk2⟩
    refine g_seq ?_
    refine g_seq ?_
    refine g_region ?_
    refine g_pure (p_move rfl) rfl ?_
    refine g_pure (p_move rfl) rfl ?_
    refine g_pure (p_len (by rfl) rfl) rfl ?_
    refine g_pure (p_lss rfl rfl) rfl ?_
    refine g_nil ?_
    refine g_qt ?_
    refine g_ifd rfl (fun q => ?_) (fun q => ?_)
    · have hka : k < la.length := by omega
      have hkb : k < lb.length := by omega
      obtain ⟨b1, o1, c1, T1, z1, r1, r2, r3⟩ := rsl_at ha (by omega)
      obtain ⟨b2, o2, c2, T2, z2, s1, s2, s3⟩ := rsl_at hb (by omega)
      have r3 := r3 k hka
      have s3 := s3 k hkb
      refine g_skip ?_
      refine g_qt ?_
      refine g_seq ?_
      refine g_block ?_
      refine g_seq ?_
      refine m_begin0 (.fl 0 0 (.fl 1 0 (.fl 2 0 (.fl 3 1 (.fl 4 0 (.fl 5 0 (.fl 6 0 (.fl 7 1 (.fl 8 0 .done))))))))) (by kernel_rfl) (by kernel_rfl) ?_
      refine m_float0 rfl (fun _ _ => p_move rfl) rfl ?_
      refine m_float0 rfl (fun _ _ => p_move rfl) rfl ?_
      refine m_float0 rfl (fun _ _ => p_indexAddr rfl rfl (by omega) (fun _ => r1)) rfl ?_
      refine m_float rfl (p_load (by rfl) rfl (Has.ro r2) r3) rfl ?_
      refine m_float0 rfl (fun _ _ => p_move rfl) rfl ?_
      refine m_float0 rfl (fun _ _ => p_move rfl) rfl ?_
      refine m_float0 rfl (fun _ _ => p_indexAddr rfl rfl (by omega) (fun _ => s1)) rfl ?_
      refine m_float rfl (p_load (by rfl) rfl (Has.ro s2) s3) rfl ?_
      refine m_float0 rfl (fun _ _ => p_neq rfl rfl) rfl ?_
      refine m_nil ?_
      refine g_qt ?_
      refine g_ifnd rfl (fun h2 => ?_) (fun h2 => ?_)
      · refine g_seq ?_
        refine g_region ?_
        refine g_pure (p_assign rfl) rfl ?_
        refine g_nil ?_
        refine g_qt ?_
        refine g_ret ?_
        refine g_qb_ret ?_
        refine g_qt_ret ?_
        refine g_qn_ret ?_
        refine g_qb_ret ?_
        refine g_qt_ret ?_
        exact g_post (rs := [.tmp 4]) rfl (.tmp rfl .nil) ⟨by rw [decide_eq_false (p := la = lb) (getElem_ne hka hkb h2)]; rfl, rfl⟩ .nil
      · refine g_skip ?_
        refine g_qb ?_
        refine g_qt ?_
        refine g_region ?_
        refine g_pure (p_move rfl) rfl ?_
        first | refine g_pure (p_addi rfl rfl (by omega)) rfl ?_ | refine g_pure (p_add rfl rfl) rfl ?_
        refine g_pure (p_assign rfl) rfl ?_
        refine g_nil ?_
        refine g_qn ?_
        exact g_next (k + 1) (by (repeat (first | exact trivial | refine ⟨by rfl, ?_⟩)); done) .nil ⟨by omega, take_eq_step hka hkb hk2 (by omega)⟩ (by omega)
    · have hke : k = la.length := by omega
      rw [hke, List.take_length, hll, List.take_length] at hk2
      refine g_exit ?_
      refine g_qt_exit ?_
      refine g_qn_exit ?_
      refine g_qb_exit ?_
      refine g_qt ?_
      refine g_seq ?_
      refine g_region ?_
      refine g_pure (p_assign rfl) rfl ?_
      refine g_nil ?_
      refine g_qt ?_
      refine g_ret ?_
      exact g_post (rs := [.tmp 4]) rfl (.tmp rfl .nil) ⟨by rw [decide_eq_true (p := la = lb) hk2]; rfl, rfl⟩ .nil
theorem lists_ok {ρ : Nat → Obj → Prop} (a b : Option Addr) (ac bc : Nat) (la lb : List (List Int)) (ha : LsR ρ a la) (hb : LsR ρ b lb) (hl : la.length ≤ 9223372036854775807) (hs : ∀ l ∈ la, l.length ≤ 9223372036854775807) :
    Con Try.prog ρ 20 #[.slice a la.length ac, .slice b lb.length bc] [] (fun v H => v = .bool (decide (la = lb)) ∧ H = []) := by
  refine con_intro Try.func20 Try.call20 rfl Try.ntmps20 rfl (L := [(0, _), (1, _)]) rfl fun w hh => ?_
  refine g_seq ?_
  refine g_region ?_
  refine g_pure (p_assign rfl) rfl ?_
  refine g_nil ?_
  refine g_qt ?_
  refine g_seq ?_
  refine g_seq ?_
  refine g_region ?_
  refine g_pure (p_move rfl) rfl ?_
  refine g_pure (p_len (by rfl) rfl) rfl ?_
  refine g_pure (p_move rfl) rfl ?_
  refine g_pure (p_len (by rfl) rfl) rfl ?_
  refine g_pure (p_neq rfl rfl) rfl ?_
  refine g_nil ?_
  refine g_qt ?_
  refine g_ifnd rfl (fun h1 => ?_) (fun h1 => ?_)
  · refine g_seq ?_
    refine g_region ?_
    refine g_pure (p_assign rfl) rfl ?_
    refine g_nil ?_
    refine g_qt ?_
    refine g_ret ?_
    refine g_qt_ret ?_
    exact g_post (rs := [.tmp 4]) rfl (.tmp rfl .nil) ⟨by rw [decide_eq_false (p := la = lb) (fun h => h1 (by rw [h]))]; rfl, rfl⟩ .nil
  · have hll : la.length = lb.length := by omega
    refine g_skip ?_
    refine g_qt ?_
    refine g_seq ?_
    refine g_seq ?_
    refine g_region ?_
    refine g_pure (p_assign rfl) rfl ?_
    refine g_nil ?_
    refine g_qt ?_
    refine g_block ?_
    refine g_loop (fun k : Nat => [(0, .slice a la.length ac), (1, .slice b lb.length bc), (4, .bool false), (5, .int .i64 k)]) (fun _ => []) (fun k => k ≤ la.length ∧ la.take k = lb.take k) (fun k => la.length - k) 0 ⟨Nat.zero_le _, rfl⟩ (by (repeat (first | exact trivial | refine ⟨by rfl, ?_⟩)); done) .nil ?_
    rintro k ⟨hk1, hk2⟩
    refine g_seq ?_
    refine g_seq ?_
    refine g_region ?_
    refine g_pure (p_move rfl) rfl ?_
    refine g_pure (p_move rfl) rfl ?_
    refine g_pure (p_len (by rfl) rfl) rfl ?_
    refine g_pure (p_lss rfl rfl) rfl ?_
    refine g_nil ?_
    refine g_qt ?_
    refine g_ifd rfl (fun q => ?_) (fun q => ?_)
    · have hka : k < la.length := by omega
      have hkb : k < lb.length := by omega
      obtain ⟨b1, o1, c1, T1, z1, x1, y1, r1, r2, r3, r4⟩ := ha.at hka
      obtain ⟨b2, o2, c2, T2, z2, x2, y2, s1, s2, s3, s4⟩ := hb.at hkb
      have hsl := hs _ (List.getElem_mem hka)
      refine g_skip ?_
      refine g_qt ?_
      refine g_seq ?_
      refine g_block ?_
      refine g_seq ?_
      refine m_begin0 (.fl 0 0 (.fl 1 0 (.fl 2 0 (.fl 3 1 (.fl 4 0 (.fl 5 0 (.fl 6 0 (.fl 7 1 (.ef 8 (.fl 9 0 .done)))))))))) (by kernel_rfl) (by kernel_rfl) ?_
      refine m_float0 rfl (fun _ _ => p_move rfl) rfl ?_
      refine m_float0 rfl (fun _ _ => p_move rfl) rfl ?_
      refine m_float0 rfl (fun _ _ => p_indexAddr rfl rfl (by omega) (fun _ => r1)) rfl ?_
      refine m_float rfl (p_load (by rfl) rfl (Has.ro r2) r3) rfl ?_
      refine m_float0 rfl (fun _ _ => p_move rfl) rfl ?_
      refine m_float0 rfl (fun _ _ => p_move rfl) rfl ?_
      refine m_float0 rfl (fun _ _ => p_indexAddr rfl rfl (by omega) (fun _ => s1)) rfl ?_
      refine m_float rfl (p_load (by rfl) rfl (Has.ro s2) s3) rfl ?_
      refine m_call (Hin := []) (Hr := ?hr1) (R := ?rr1) rfl wantedN rfl rfl rfl ?hin1 ?hc1 ?hk1
      case hin1 => repeat' (first | exact Cover.nil | exact Take.here | apply Cover.cons | apply Take.there)
      case hc1 => intro ρ' hρ hR; exact same_ok x1 x2 y1 y2 la[k] lb[k] (r4.mono hρ) (s4.mono hρ) hsl
      rintro _ _ ⟨rfl, rfl⟩
      refine ⟨.none (by kernel_rfl), ?_⟩
      refine m_float0 rfl (fun _ _ => p_not rfl) rfl ?_
      refine m_nil ?_
      refine g_qt ?_
      refine g_ifnd rfl (fun h2 => ?_) (fun h2 => ?_)
      · refine g_seq ?_
        refine g_region ?_
        refine g_pure (p_assign rfl) rfl ?_
        refine g_nil ?_
        refine g_qt ?_
        refine g_ret ?_
        refine g_qb_ret ?_
        refine g_qt_ret ?_
        refine g_qn_ret ?_
        refine g_qb_ret ?_
        refine g_qt_ret ?_
        exact g_post (rs := [.tmp 4]) rfl (.tmp rfl .nil) ⟨by rw [decide_eq_false (p := la = lb) (getElem_ne hka hkb h2)]; rfl, rfl⟩ .nil
      · refine g_skip ?_
        refine g_qb ?_
        refine g_qt ?_
        refine g_region ?_
        refine g_pure (p_move rfl) rfl ?_
        first | refine g_pure (p_addi rfl rfl (by omega)) rfl ?_ | refine g_pure (p_add rfl rfl) rfl ?_
        refine g_pure (p_assign rfl) rfl ?_
        refine g_nil ?_
        refine g_qn ?_
        exact g_next (k + 1) (by (repeat (first | exact trivial | refine ⟨by rfl, ?_⟩)); done) .nil ⟨by omega, take_eq_step hka hkb hk2 h2⟩ (by omega)
    · have hke : k = la.length := by omega
      rw [hke, List.take_length, hll, List.take_length] at hk2
      refine g_exit ?_
      refine g_qt_exit ?_
      refine g_qn_exit ?_
      refine g_qb_exit ?_
      refine g_qt ?_
      refine g_seq ?_
      refine g_region ?_
      refine g_pure (p_assign rfl) rfl ?_
      refine g_nil ?_
      refine g_qt ?_
      refine g_ret ?_
      exact g_post (rs := [.tmp 4]) rfl (.tmp rfl .nil) ⟨by rw [decide_eq_true (p := la = lb) hk2]; rfl, rfl⟩ .nil
theorem holds_ok {ρ : Nat → Obj → Prop} (a : Option Addr) (ac : Nat) (la : List Int) (ha : RSl ρ 1 a la.length (la.map Z.encI)) (hl : la.length ≤ 9223372036854775807) (v : Int) :
    Con Try.prog ρ 22 #[.slice a la.length ac, .int .i64 v] [] (fun r H => r = .bool (decide (v ∈ la)) ∧ H = []) := by
  refine con_intro Try.func22 Try.call22 rfl Try.ntmps22 rfl (L := [(0, _), (1, _)]) rfl fun w hh => ?_
  refine g_seq ?_
  refine g_region ?_
  refine g_pure (p_assign rfl) rfl ?_
  refine g_nil ?_
  refine g_qt ?_
  refine g_seq ?_
  refine g_seq ?_
  refine g_region ?_
  refine g_pure (p_assign rfl) rfl ?_
  refine g_nil ?_
  refine g_qt ?_
  refine g_block ?_
  refine g_loop (fun k : Nat => [(0, .slice a la.length ac), (1, .int .i64 v), (4, .bool false), (5, .int .i64 k)]) (fun _ => []) (fun k => k ≤ la.length ∧ v ∉ la.take k) (fun k => la.length - k) 0 ⟨Nat.zero_le _, List.not_mem_nil⟩ (by (repeat (first | exact trivial | refine ⟨by rfl, ?_⟩)); done) .nil ?_
  rintro k ⟨hk1, hk2⟩
  refine g_seq ?_
  refine g_seq ?_
  refine g_region ?_
  refine g_pure (p_move rfl) rfl ?_
  refine g_pure (p_move rfl) rfl ?_
  refine g_pure (p_len (by rfl) rfl) rfl ?_
  refine g_pure (p_lss rfl rfl) rfl ?_
  refine g_nil ?_
  refine g_qt ?_
  refine g_ifd rfl (fun q => ?_) (fun q => ?_)
  · have hka : k < la.length := by omega
    obtain ⟨b1, o1, c1, T1, z1, r1, r2, r3⟩ := rsl_at ha (by omega)
    have r3 := r3 k hka
    refine g_skip ?_
    refine g_qt ?_
    refine g_seq ?_
    refine g_block ?_
    refine g_seq ?_
    refine g_region ?_
    refine g_pure (p_move rfl) rfl ?_
    refine g_pure (p_move rfl) rfl ?_
    refine g_pure (p_indexAddr rfl rfl (by omega) (fun _ => r1)) rfl ?_
    refine g_pure (p_load (by rfl) rfl (Has.ro r2) r3) rfl ?_
    refine g_pure (p_move rfl) rfl ?_
    refine g_pure (p_eql rfl rfl) rfl ?_
    refine g_nil ?_
    refine g_qt ?_
    refine g_ifd rfl (fun h2 => ?_) (fun h2 => ?_)
    · refine g_seq ?_
      refine g_region ?_
      refine g_pure (p_assign rfl) rfl ?_
      refine g_nil ?_
      refine g_qt ?_
      refine g_ret ?_
      refine g_qb_ret ?_
      refine g_qt_ret ?_
      refine g_qn_ret ?_
      refine g_qb_ret ?_
      refine g_qt_ret ?_
      exact g_post (rs := [.tmp 4]) rfl (.tmp rfl .nil) ⟨by rw [decide_eq_true (p := v ∈ la) (by rw [← h2]; exact List.getElem_mem hka)]; rfl, rfl⟩ .nil
    · refine g_skip ?_
      refine g_qb ?_
      refine g_qt ?_
      refine g_region ?_
      refine g_pure (p_move rfl) rfl ?_
      first | refine g_pure (p_addi rfl rfl (by omega)) rfl ?_ | refine g_pure (p_add rfl rfl) rfl ?_
      refine g_pure (p_assign rfl) rfl ?_
      refine g_nil ?_
      refine g_qn ?_
      exact g_next (k + 1) (by (repeat (first | exact trivial | refine ⟨by rfl, ?_⟩)); done) .nil ⟨by omega, by
        rw [List.take_add_one, List.getElem?_eq_getElem hka, Option.toList_some, List.mem_append, List.mem_singleton, not_or]
        exact ⟨hk2, fun e => h2 e.symm⟩⟩ (by omega)
  · have hke : k = la.length := by omega
    rw [hke, List.take_length] at hk2
    refine g_exit ?_
    refine g_qt_exit ?_
    refine g_qn_exit ?_
    refine g_qb_exit ?_
    refine g_qt ?_
    refine g_seq ?_
    refine g_region ?_
    refine g_pure (p_assign rfl) rfl ?_
    refine g_nil ?_
    refine g_qt ?_
    refine g_ret ?_
    exact g_post (rs := [.tmp 4]) rfl (.tmp rfl .nil) ⟨by rw [decide_eq_false (p := v ∈ la) hk2]; rfl, rfl⟩ .nil
theorem has_ok {ρ : Nat → Obj → Prop} (a : Option Addr) (ac : Nat) (E : Ed) (ha : EdR ρ a E) (hl : E.length ≤ 9223372036854775807) (u v : Int) :
    Con Try.prog ρ 21 #[.slice a E.length ac, .int .i64 u, .int .i64 v] [] (fun r H => r = .bool (decide ((u, v) ∈ E)) ∧ H = []) := by
  refine con_intro Try.func21 Try.call21 rfl Try.ntmps21 rfl (L := [(0, _), (1, _), (2, _)]) rfl fun w hh => ?_
  refine g_seq ?_
  refine g_region ?_
  refine g_pure (p_assign rfl) rfl ?_
  refine g_nil ?_
  refine g_qt ?_
  refine g_seq ?_
  refine g_seq ?_
  refine g_region ?_
  refine g_pure (p_assign rfl) rfl ?_
  refine g_nil ?_
  refine g_qt ?_
  refine g_block ?_
  refine g_loop (fun k : Nat => [(0, .slice a E.length ac), (1, .int .i64 u), (2, .int .i64 v), (6, .bool false), (7, .int .i64 k)]) (fun _ => []) (fun k => k ≤ E.length ∧ (u, v) ∉ E.take k) (fun k => E.length - k) 0 ⟨Nat.zero_le _, List.not_mem_nil⟩ (by (repeat (first | exact trivial | refine ⟨by rfl, ?_⟩)); done) .nil ?_
  rintro k ⟨hk1, hk2⟩
  refine g_seq ?_
  refine g_seq ?_
  refine g_region ?_
  refine g_pure (p_move rfl) rfl ?_
  refine g_pure (p_move rfl) rfl ?_
  refine g_pure (p_len (by rfl) rfl) rfl ?_
  refine g_pure (p_lss rfl rfl) rfl ?_
  refine g_nil ?_
  refine g_qt ?_
  refine g_ifd rfl (fun q => ?_) (fun q => ?_)
  · have hka : k < E.length := by omega
    obtain ⟨be, oe, ce, Te, ze, i1, i2, i3⟩ := ha.at (by omega)
    obtain ⟨-, i4, i5⟩ := i3 k hka
    have hnext : E[k] ≠ (u, v) → (u, v) ∉ E.take (k + 1) := fun hne => by
      rw [List.take_add_one, List.getElem?_eq_getElem hka, Option.toList_some, List.mem_append, List.mem_singleton, not_or]
      exact ⟨hk2, fun e => hne e.symm⟩
    refine g_skip ?_
    refine g_qt ?_
    refine g_seq ?_
    refine g_block ?_
    refine g_seq ?_
    refine g_region ?_
    refine g_pure (p_move rfl) rfl ?_
    refine g_pure (p_move rfl) rfl ?_
    refine g_pure (p_indexAddr rfl rfl (by omega) (fun _ => i1)) rfl ?_
    refine g_pure (p_fieldAddr rfl) rfl ?_
    refine g_pure (p_load (by rfl) rfl (Has.ro i2) i4) rfl ?_
    refine g_pure (p_move rfl) rfl ?_
    refine g_pure (p_eql rfl rfl) rfl ?_
    refine g_pure (p_move rfl) rfl ?_
    refine g_splitd rfl rfl (fun g1 => ?_) (fun g1 => ?_)
    · refine g_yes rfl rfl ?_
      refine g_pure (p_move rfl) rfl ?_
      refine g_yes rfl rfl ?_
      refine g_pure (p_move rfl) rfl ?_
      refine g_yes rfl rfl ?_
      refine g_pure (p_indexAddr rfl rfl (by omega) (fun _ => i1)) rfl ?_
      refine g_yes rfl rfl ?_
      refine g_pure (p_fieldAddr rfl) rfl ?_
      refine g_yes rfl rfl ?_
      refine g_pure (p_load (by rfl) rfl (Has.ro i2) i5) rfl ?_
      refine g_yes rfl rfl ?_
      refine g_pure (p_move rfl) rfl ?_
      refine g_yes rfl rfl ?_
      refine g_pure (p_eql rfl rfl) rfl ?_
      first | refine g_pure (p_pickt rfl rfl) rfl ?_ | refine g_pure (p_pickf rfl rfl) rfl ?_
      refine g_nil ?_
      refine g_qt ?_
      refine g_ifd rfl (fun g2 => ?_) (fun g2 => ?_)
      · refine g_seq ?_
        refine g_region ?_
        refine g_pure (p_assign rfl) rfl ?_
        refine g_nil ?_
        refine g_qt ?_
        refine g_ret ?_
        refine g_qb_ret ?_
        refine g_qt_ret ?_
        refine g_qn_ret ?_
        refine g_qb_ret ?_
        refine g_qt_ret ?_
        exact g_post (rs := [.tmp 6]) rfl (.tmp rfl .nil) ⟨by rw [decide_eq_true (p := (u, v) ∈ E) (by rw [← g1, ← g2]; exact List.getElem_mem hka)]; rfl, rfl⟩ .nil
      · refine g_skip ?_
        refine g_qb ?_
        refine g_qt ?_
        refine g_region ?_
        refine g_pure (p_move rfl) rfl ?_
        first | refine g_pure (p_addi rfl rfl (by omega)) rfl ?_ | refine g_pure (p_add rfl rfl) rfl ?_
        refine g_pure (p_assign rfl) rfl ?_
        refine g_nil ?_
        refine g_qn ?_
        exact g_next (k + 1) (by (repeat (first | exact trivial | refine ⟨by rfl, ?_⟩)); done) .nil ⟨by omega, hnext fun e => g2 (by rw [e])⟩ (by omega)
    · refine g_no rfl rfl rfl rfl ?_
      refine g_no rfl rfl rfl rfl ?_
      refine g_no rfl rfl rfl rfl ?_
      refine g_no rfl rfl rfl rfl ?_
      refine g_no rfl rfl rfl rfl ?_
      refine g_no rfl rfl rfl rfl ?_
      refine g_no rfl rfl rfl rfl ?_
      first | refine g_pure (p_pickt rfl rfl) rfl ?_ | refine g_pure (p_pickf rfl rfl) rfl ?_
      refine g_nil ?_
      refine g_qt ?_
      refine g_iff rfl ?_
      refine g_skip ?_
      refine g_qb ?_
      refine g_qt ?_
      refine g_region ?_
      refine g_pure (p_move rfl) rfl ?_
      first | refine g_pure (p_addi rfl rfl (by omega)) rfl ?_ | refine g_pure (p_add rfl rfl) rfl ?_
      refine g_pure (p_assign rfl) rfl ?_
      refine g_nil ?_
      refine g_qn ?_
      exact g_next (k + 1) (by (repeat (first | exact trivial | refine ⟨by rfl, ?_⟩)); done) .nil ⟨by omega, hnext fun e => g1 (by rw [e])⟩ (by omega)
  · have hke : k = E.length := by omega
    rw [hke, List.take_length] at hk2
    refine g_exit ?_
    refine g_qt_exit ?_
    refine g_qn_exit ?_
    refine g_qb_exit ?_
    refine g_qt ?_
    refine g_seq ?_
    refine g_region ?_
    refine g_pure (p_assign rfl) rfl ?_
    refine g_nil ?_
    refine g_qt ?_
    refine g_ret ?_
    exact g_post (rs := [.tmp 6]) rfl (.tmp rfl .nil) ⟨by rw [decide_eq_false (p := (u, v) ∈ E) hk2]; rfl, rfl⟩ .nil
theorem few_ok {ρ : Nat → Obj → Prop} (a : Option Addr) (c : Nat) (E : Ed) (hE : EdR ρ a E) (hc : E.length ≤ c) (hm : c ≤ 9223372036854775807) :
    Con Try.prog ρ 9 #[.slice a E.length c] [] (fun r H => r = .slice a (E.take 400).length c ∧ H = []) := by
  refine con_intro Try.func9 Try.call9 rfl Try.ntmps9 rfl (L := [(0, _)]) rfl fun w hh => ?_
  refine g_seq ?_
  refine g_region ?_
  refine g_pure (p_assign rfl) rfl ?_
  refine g_nil ?_
  refine g_qt ?_
  refine g_seq ?_
  refine g_seq ?_
  refine g_region ?_
  refine g_pure (p_move rfl) rfl ?_
  refine g_pure (p_len (by rfl) rfl) rfl ?_
  refine g_pure (p_gtr rfl rfl) rfl ?_
  refine g_nil ?_
  refine g_qt ?_
  refine g_ifd rfl (fun h => ?_) (fun h => ?_)
  · refine g_seq ?_
    refine g_region ?_
    refine g_pure (p_move rfl) rfl ?_
    refine g_pure (p_sliceh rfl rfl (by omega)) rfl ?_
    refine g_pure (p_assign rfl) rfl ?_
    refine g_nil ?_
    refine g_qt ?_
    refine g_ret ?_
    refine g_qt_ret ?_
    exact g_post (rs := [.tmp 2]) rfl (.tmp rfl .nil) ⟨by rw [List.length_take, Nat.min_eq_left (by omega)]; rfl, rfl⟩ .nil
  · refine g_skip ?_
    refine g_qt ?_
    refine g_seq ?_
    refine g_region ?_
    refine g_pure (p_move rfl) rfl ?_
    refine g_pure (p_assign rfl) rfl ?_
    refine g_nil ?_
    refine g_qt ?_
    refine g_ret ?_
    exact g_post (rs := [.tmp 2]) rfl (.tmp rfl .nil) ⟨by rw [List.take_of_length_le (by omega)]; rfl, rfl⟩ .nil
end Go.Proofs.Ytmefecnjliadaaa
