/- Chapter 37, the statements' own parts: which formulas are looked at; equal rows; reading a formula. Conditions: none. -/
import Derived.Test.YtbpgblbhikeglaaU4
namespace Go.Z.Sat
set_option linter.unusedVariables false
set_option linter.unusedSimpArgs false
set_option linter.unusedSectionVars false
open Go Go.Z Go.Proofs.Ytbpgblbhikeglaa
def total (F : Fm) : Nat := (F.map List.length).sum
structure Light (n : Int) (F : Fm) (bud : Int) : Prop where
  len : F.length ≤ 150
  tot : total F ≤ 600
  vars : ¬ (1000 < n ∧ n ≤ 262144)
  bud : n ≤ 9 ∨ bud ≤ 300
theorem mem_total {F : Fm} {c : Cl} (h : c ∈ F) : c.length ≤ total F := by
  unfold total
  induction F with
  | nil => cases h
  | cons d F ih =>
    rw [List.map_cons, List.sum_cons]
    rcases List.mem_cons.1 h with rfl | h
    · omega
    · have := ih h; omega
theorem useRow_total (F : Fm) (k : Int) : (useRow F k).length ≤ total F := by
  have key : ∀ (F : Fm) (i : Nat), ((F.zipIdx i).flatMap fun p => (p.1.filter fun x => decide (uix x = k)).map fun _ => p.2).length ≤ total F := by
    intro F
    induction F with
    | nil => intro i; simp
    | cons c F ih =>
      intro i
      rw [List.zipIdx_cons, List.flatMap_cons, List.length_append, List.length_map]
      have := ih (i + 1)
      have h2 := List.length_filter_le (fun x => decide (uix x = k)) c
      unfold total at *
      rw [List.map_cons, List.sum_cons]
      dsimp only at *
      omega
  exact key F 0
theorem Light.ok {n : Int} {F : Fm} {bud : Int} (h : Light n F bud) (hc : check1 n F = 0) : Ok n.toNat F := by
  have hnn := check1_nonneg hc
  have hall : allB n F = true := by
    unfold check1 at hc
    rw [if_neg (by omega), if_neg (by omega)] at hc
    split at hc
    · assumption
    · cases hc
  have hlen := h.len
  have htot := h.tot
  refine ⟨fun c hcm l hl => ?_, by omega, by omega, fun c hcm => by have := mem_total hcm; omega, fun k => by have := useRow_total F k; omega⟩
  have h1 := List.all_eq_true.1 hall c hcm
  have h2 := List.all_eq_true.1 h1 l hl
  refine okB_okL ?_
  rw [Int.toNat_of_nonneg hnn.1]; exact h2
theorem total_take (F : Fm) {i : Nat} (hi : i < F.length) : total (F.take (i + 1)) = total (F.take i) + F[i].length := by
  unfold total
  rw [List.take_add_one, List.getElem?_eq_getElem hi, Option.toList_some, List.map_append, List.sum_append]; simp
theorem total_le (F : Fm) {m : Nat} (h : ∀ c ∈ F, c.length ≤ m) : total F ≤ F.length * m := by
  unfold total
  induction F with
  | nil => simp
  | cons c F ih =>
    rw [List.map_cons, List.sum_cons, List.length_cons, Nat.succ_mul]
    have := ih fun c hc => h c (List.mem_cons_of_mem _ hc)
    have := h c (by simp)
    omega
end Go.Z.Sat
namespace Go.Proofs.Ytbpgblbhikeglaa
open Go Go.Z Go.Z.Sat

/-- a formula as it came in -/
structure FmI (ρ : Nat → Obj → Prop) (n : Int) (ca : Option Addr) (F : Fm) : Prop where
  fm : FmR ρ ca F
  vars : I64 n
  lens : ∀ c ∈ F, c.length ≤ 17592186044416
theorem FmI.mono {ρ ρ' : Nat → Obj → Prop} {n : Int} {ca : Option Addr} {F : Fm} (h : FmI ρ n ca F) (s : ∀ b o, ρ b o → ρ' b o) : FmI ρ' n ca F := ⟨h.fm.mono s, h.vars, h.lens⟩

theorem heavy_ok {ρ : Nat → Obj → Prop} {n : Int} {ca : Option Addr} {cc : Nat} {F : Fm} (hF : FmI ρ n ca F) (bud : Int) :
    Con Try.prog ρ 8 #[.agg #[.int .i64 n, .slice ca F.length cc], .int .i64 bud] [] (fun v H => ∃ b, v = .bool b ∧ H = [] ∧ (b = false → Light n F bud)) := by
  have hn := hF.vars
  unfold I64 at hn
  have hlen := hF.fm.len
  refine con_intro Try.func8 Try.call8 rfl Try.ntmps8 rfl (L := [(0, _), (1, _)]) rfl fun w hh => ?_
  refine g_seq ?_
  refine g_region ?_
  refine g_eff (e_box rfl (by rfl)) rfl (fun _ _ => ?_)
  rintro ⟨b2, rfl, rfl⟩
  refine g_pure (p_assign rfl) rfl ?_
  refine g_nil ?_
  refine g_qt ?_
  refine g_seq ?_
  refine g_seq ?_
  refine g_join (fun y : Bool => [(1, .int .i64 bud), (2, .pointer (some ⟨b2, 0, none⟩)), (29, .bool y)]) (fun _ => [Blk b2 (.cells [.int .i64 n, .slice ca F.length cc].toArray 24 (0, 0))]) (fun y => y = false → F.length ≤ 150 ∧ ¬ (1000 < n ∧ n ≤ 262144) ∧ (n ≤ 9 ∨ bud ≤ 300)) ?_ ?_
  · refine g_region ?_
    refine g_pure (p_fieldAddr rfl) rfl ?_
    refine g_pure (p_load (by rfl) rfl (by first | (apply Has.own; (repeat' (first | exact Take.here | apply Take.there)); done) | exact Has.ro (by assumption)) (by first | rfl | assumption)) rfl ?_
    refine g_pure (p_len (by rfl) rfl) rfl ?_
    refine g_pure (p_gtr rfl rfl) rfl ?_
    refine g_pure (p_move rfl) rfl ?_
    refine g_splitd rfl rfl (fun y1 => ?_) (fun y1 => ?_)
    · refine g_no rfl rfl rfl rfl ?_
      refine g_no rfl rfl rfl rfl ?_
      refine g_no rfl rfl rfl rfl ?_
      refine g_no rfl rfl rfl rfl ?_
      refine g_nou rfl rfl rfl ?_
      refine g_nou rfl rfl rfl ?_
      refine g_nou rfl rfl rfl ?_
      refine g_no rfl rfl rfl rfl ?_
      first | refine g_pure (p_pickt rfl rfl) rfl ?_ | refine g_pure (p_pickf rfl rfl) rfl ?_
      refine g_pure (p_move rfl) rfl ?_
      refine g_no rfl rfl rfl rfl ?_
      refine g_no rfl rfl rfl rfl ?_
      refine g_no rfl rfl rfl rfl ?_
      refine g_no rfl rfl rfl rfl ?_
      refine g_nou rfl rfl rfl ?_
      refine g_nou rfl rfl rfl ?_
      refine g_no rfl rfl rfl rfl ?_
      first | refine g_pure (p_pickt rfl rfl) rfl ?_ | refine g_pure (p_pickf rfl rfl) rfl ?_
      refine g_nil ?_
      refine g_qn ?_
      exact g_joined true (by repeat (first | exact trivial | refine ⟨by rfl, ?_⟩)) (by repeat' (first | exact Cover.nil | exact Take.here | apply Cover.cons | apply Take.there)) fun h => by cases h
    · refine g_yes rfl rfl ?_
      refine g_pure (p_fieldAddr rfl) rfl ?_
      refine g_yes rfl rfl ?_
      refine g_pure (p_load (by rfl) rfl (by first | (apply Has.own; (repeat' (first | exact Take.here | apply Take.there)); done) | exact Has.ro (by assumption)) (by first | rfl | assumption)) rfl ?_
      refine g_yes rfl rfl ?_
      refine g_pure (p_gtr rfl rfl) rfl ?_
      refine g_yes rfl rfl ?_
      refine g_pure (p_move rfl) rfl ?_
      refine g_splitd rfl rfl (fun y2 => ?_) (fun y2 => ?_)
      · refine g_yes rfl rfl ?_
        refine g_pure (p_fieldAddr rfl) rfl ?_
        refine g_yes rfl rfl ?_
        refine g_pure (p_load (by rfl) rfl (by first | (apply Has.own; (repeat' (first | exact Take.here | apply Take.there)); done) | exact Has.ro (by assumption)) (by first | rfl | assumption)) rfl ?_
        refine g_yes rfl rfl ?_
        refine g_pure (p_leq rfl rfl) rfl ?_
        refine g_yes rfl rfl ?_
        first | refine g_pure (p_pickt rfl rfl) rfl ?_ | refine g_pure (p_pickf rfl rfl) rfl ?_
        first | refine g_pure (p_pickt rfl rfl) rfl ?_ | refine g_pure (p_pickf rfl rfl) rfl ?_
        refine g_pure (p_move rfl) rfl ?_
        refine g_splitd rfl rfl (fun y3 => ?_) (fun y3 => ?_)
        · refine g_no rfl rfl rfl rfl ?_
          refine g_no rfl rfl rfl rfl ?_
          refine g_no rfl rfl rfl rfl ?_
          refine g_no rfl rfl rfl rfl ?_
          refine g_nou rfl rfl rfl ?_
          refine g_nou rfl rfl rfl ?_
          refine g_no rfl rfl rfl rfl ?_
          first | refine g_pure (p_pickt rfl rfl) rfl ?_ | refine g_pure (p_pickf rfl rfl) rfl ?_
          refine g_nil ?_
          refine g_qn ?_
          exact g_joined true (by repeat (first | exact trivial | refine ⟨by rfl, ?_⟩)) (by repeat' (first | exact Cover.nil | exact Take.here | apply Cover.cons | apply Take.there)) fun h => by cases h
        · refine g_yes rfl rfl ?_
          refine g_pure (p_fieldAddr rfl) rfl ?_
          refine g_yes rfl rfl ?_
          refine g_pure (p_load (by rfl) rfl (by first | (apply Has.own; (repeat' (first | exact Take.here | apply Take.there)); done) | exact Has.ro (by assumption)) (by first | rfl | assumption)) rfl ?_
          refine g_yes rfl rfl ?_
          refine g_pure (p_gtr rfl rfl) rfl ?_
          refine g_yes rfl rfl ?_
          refine g_pure (p_move rfl) rfl ?_
          refine g_splitd rfl rfl (fun y4 => ?_) (fun y4 => ?_)
          · refine g_yes rfl rfl ?_
            refine g_pure (p_move rfl) rfl ?_
            refine g_yes rfl rfl ?_
            refine g_pure (p_gtr rfl rfl) rfl ?_
            refine g_yes rfl rfl ?_
            first | refine g_pure (p_pickt rfl rfl) rfl ?_ | refine g_pure (p_pickf rfl rfl) rfl ?_
            first | refine g_pure (p_pickt rfl rfl) rfl ?_ | refine g_pure (p_pickf rfl rfl) rfl ?_
            refine g_nil ?_
            refine g_qn ?_
            exact g_joined (decide (300 < bud)) (by repeat (first | exact trivial | refine ⟨by rfl, ?_⟩)) (by repeat' (first | exact Cover.nil | exact Take.here | apply Cover.cons | apply Take.there)) fun h => ⟨by omega, by omega, .inr (by have := of_decide_eq_false h; omega)⟩
          · refine g_no rfl rfl rfl rfl ?_
            refine g_no rfl rfl rfl rfl ?_
            refine g_yes rfl rfl ?_
            first | refine g_pure (p_pickt rfl rfl) rfl ?_ | refine g_pure (p_pickf rfl rfl) rfl ?_
            first | refine g_pure (p_pickt rfl rfl) rfl ?_ | refine g_pure (p_pickf rfl rfl) rfl ?_
            refine g_nil ?_
            refine g_qn ?_
            exact g_joined false (by repeat (first | exact trivial | refine ⟨by rfl, ?_⟩)) (by repeat' (first | exact Cover.nil | exact Take.here | apply Cover.cons | apply Take.there)) fun h => ⟨by omega, by omega, .inl (by omega)⟩
      · refine g_no rfl rfl rfl rfl ?_
        refine g_no rfl rfl rfl rfl ?_
        refine g_no rfl rfl rfl rfl ?_
        refine g_yes rfl rfl ?_
        first | refine g_pure (p_pickt rfl rfl) rfl ?_ | refine g_pure (p_pickf rfl rfl) rfl ?_
        first | refine g_pure (p_pickt rfl rfl) rfl ?_ | refine g_pure (p_pickf rfl rfl) rfl ?_
        refine g_pure (p_move rfl) rfl ?_
        refine g_yes rfl rfl ?_
        refine g_pure (p_fieldAddr rfl) rfl ?_
        refine g_yes rfl rfl ?_
        refine g_pure (p_load (by rfl) rfl (by first | (apply Has.own; (repeat' (first | exact Take.here | apply Take.there)); done) | exact Has.ro (by assumption)) (by first | rfl | assumption)) rfl ?_
        refine g_yes rfl rfl ?_
        refine g_pure (p_gtr rfl rfl) rfl ?_
        refine g_yes rfl rfl ?_
        refine g_pure (p_move rfl) rfl ?_
        refine g_splitd rfl rfl (fun y4 => ?_) (fun y4 => ?_)
        · refine g_yes rfl rfl ?_
          refine g_pure (p_move rfl) rfl ?_
          refine g_yes rfl rfl ?_
          refine g_pure (p_gtr rfl rfl) rfl ?_
          refine g_yes rfl rfl ?_
          first | refine g_pure (p_pickt rfl rfl) rfl ?_ | refine g_pure (p_pickf rfl rfl) rfl ?_
          first | refine g_pure (p_pickt rfl rfl) rfl ?_ | refine g_pure (p_pickf rfl rfl) rfl ?_
          refine g_nil ?_
          refine g_qn ?_
          exact g_joined (decide (300 < bud)) (by repeat (first | exact trivial | refine ⟨by rfl, ?_⟩)) (by repeat' (first | exact Cover.nil | exact Take.here | apply Cover.cons | apply Take.there)) fun h => ⟨by omega, by omega, .inr (by have := of_decide_eq_false h; omega)⟩
        · refine g_no rfl rfl rfl rfl ?_
          refine g_no rfl rfl rfl rfl ?_
          refine g_yes rfl rfl ?_
          first | refine g_pure (p_pickt rfl rfl) rfl ?_ | refine g_pure (p_pickf rfl rfl) rfl ?_
          first | refine g_pure (p_pickt rfl rfl) rfl ?_ | refine g_pure (p_pickf rfl rfl) rfl ?_
          refine g_nil ?_
          refine g_qn ?_
          exact g_joined false (by repeat (first | exact trivial | refine ⟨by rfl, ?_⟩)) (by repeat' (first | exact Cover.nil | exact Take.here | apply Cover.cons | apply Take.there)) fun h => ⟨by omega, by omega, .inl (by omega)⟩
  intro y hy
  refine g_qt ?_
  cases y with
  | true =>
    refine g_ift rfl ?_
    refine g_seq ?_
    refine g_region ?_
    refine g_pure (p_assign rfl) rfl ?_
    refine g_nil ?_
    refine g_qt ?_
    refine g_ret ?_
    refine g_qt_ret ?_
    exact g_post (rs := [.tmp 4]) rfl (.tmp rfl .nil) ⟨true, rfl, rfl, fun h => by cases h⟩ (by repeat' (first | exact Cover.nil | exact Take.here | apply Cover.cons | apply Take.there))
  | false =>
    obtain ⟨hy1, hy2, hy3⟩ := hy rfl
    refine g_iff rfl ?_
    refine g_skip ?_
    refine g_qt ?_
    refine g_seq ?_
    refine g_region ?_
    refine g_pure (p_assign rfl) rfl ?_
    refine g_nil ?_
    refine g_qt ?_
    refine g_seq ?_
    refine g_seq ?_
    refine g_region ?_
    refine g_pure (p_assign rfl) rfl ?_
    refine g_nil ?_
    refine g_qt ?_
    refine g_block ?_
    refine g_loop (fun i : Nat => [(1, .int .i64 bud), (2, .pointer (some ⟨b2, 0, none⟩)), (5, .int .i64 (total (F.take i))), (6, .int .i64 i)])
      (fun _ => [Blk b2 (.cells [.int .i64 n, .slice ca F.length cc].toArray 24 (0, 0))]) (fun i => i ≤ F.length) (fun i => F.length - i) 0 (Nat.zero_le _) (by repeat (first | exact trivial | refine ⟨by rfl, ?_⟩)) (by repeat' (first | exact Cover.nil | exact Take.here | apply Cover.cons | apply Take.there)) ?_
    intro i hi
    have htl : total (F.take i) ≤ 150 * 17592186044416 := by
      obtain ⟨m, hm⟩ : ∃ m, m = 17592186044416 := ⟨_, rfl⟩
      rw [← hm]
      have h1 := total_le (F.take i) (m := m) fun c hc => by rw [hm]; exact hF.lens c (List.mem_of_mem_take hc)
      have h2 : (F.take i).length * m ≤ 150 * m := Nat.mul_le_mul_right _ (by rw [List.length_take]; omega)
      exact Nat.le_trans h1 h2
    refine g_seq ?_
    refine g_seq ?_
    refine g_region ?_
    refine g_pure (p_move rfl) rfl ?_
    refine g_pure (p_fieldAddr rfl) rfl ?_
    refine g_pure (p_load (by rfl) rfl (by first | (apply Has.own; (repeat' (first | exact Take.here | apply Take.there)); done) | exact Has.ro (by assumption)) (by first | rfl | assumption)) rfl ?_
    refine g_pure (p_len (by rfl) rfl) rfl ?_
    refine g_pure (p_lss rfl rfl) rfl ?_
    refine g_nil ?_
    refine g_qt ?_
    refine g_ifd rfl (fun q => ?_) (fun q => ?_)
    · have hil : i < F.length := by omega
      obtain ⟨b, off, cs, T1, fz, r1, r2, r3⟩ := hF.fm.at (by omega)
      obtain ⟨ai, ci, x1', hrow⟩ := r3 i hil
      have x1 : cs[off + (i : Int).toNat * 1]? = some (.slice ai F[i].length ci) := x1'
      have htt := total_take F hil
      have hcl := hF.lens _ (List.getElem_mem hil)
      refine g_skip ?_
      refine g_qt ?_
      refine g_seq ?_
      refine g_block ?_
      refine g_region ?_
      refine g_pure (p_move rfl) rfl ?_
      refine g_pure (p_fieldAddr rfl) rfl ?_
      refine g_pure (p_load (by rfl) rfl (by first | (apply Has.own; (repeat' (first | exact Take.here | apply Take.there)); done) | exact Has.ro (by assumption)) (by first | rfl | assumption)) rfl ?_
      refine g_pure (p_move rfl) rfl ?_
      refine g_pure (p_indexAddr rfl rfl (by omega) (fun _ => r1)) rfl ?_
      refine g_pure (p_load (by rfl) rfl (Has.ro r2) x1) rfl ?_
      refine g_pure (p_len (by rfl) rfl) rfl ?_
      first | refine g_pure (p_addi rfl rfl (by omega)) rfl ?_ | refine g_pure (p_add rfl rfl) rfl ?_
      refine g_pure (p_assign rfl) rfl ?_
      refine g_nil ?_
      refine g_qb ?_
      refine g_qt ?_
      refine g_region ?_
      refine g_pure (p_move rfl) rfl ?_
      first | refine g_pure (p_addi rfl rfl (by omega)) rfl ?_ | refine g_pure (p_add rfl rfl) rfl ?_
      refine g_pure (p_assign rfl) rfl ?_
      refine g_nil ?_
      refine g_qn ?_
      rw [show ((total (F.take i) : Nat) : Int) + ((F[i].length : Nat) : Int) = ((total (F.take (i + 1)) : Nat) : Int) by omega]
      exact g_next (i + 1) (by repeat (first | exact trivial | refine ⟨by rfl, ?_⟩)) (by repeat' (first | exact Cover.nil | exact Take.here | apply Cover.cons | apply Take.there)) (by omega) (by omega)
    · have hie : i = F.length := by omega
      rw [hie, List.take_length] at *
      refine g_exit ?_
      refine g_qt_exit ?_
      refine g_qn_exit ?_
      refine g_qb_exit ?_
      refine g_qt ?_
      refine g_seq ?_
      refine g_region ?_
      refine g_pure (p_move rfl) rfl ?_
      refine g_pure (p_gtr rfl rfl) rfl ?_
      refine g_pure (p_assign rfl) rfl ?_
      refine g_nil ?_
      refine g_qt ?_
      refine g_ret ?_
      exact g_post (rs := [.tmp 4]) rfl (.tmp rfl .nil) ⟨decide (600 < ((total F : Nat) : Int)), rfl, rfl, fun h => ⟨hy1, by have := of_decide_eq_false h; omega, hy2, hy3⟩⟩ (by repeat' (first | exact Cover.nil | exact Take.here | apply Cover.cons | apply Take.there))

theorem bools_ok {ρ : Nat → Obj → Prop} {a b : Option Addr} {ka kb c d : Nat} {xs ys : List Bool} (ea : ka = xs.length) (eb : kb = ys.length) (ha : RSl ρ 1 a ka (xs.map encB)) (hb : RSl ρ 1 b kb (ys.map encB)) (hl : xs.length ≤ 9223372036854775806) (hl2 : ys.length ≤ 9223372036854775806) :
    Con Try.prog ρ 12 #[.slice a ka c, .slice b kb d] [] (fun v H => v = .bool (decide (xs = ys)) ∧ H = []) := by
  subst ea eb
  obtain ⟨_, b1, o1, k1, T1, f1, h1⟩ := ha
  obtain ⟨_, b2, o2, k2, T2, f2, h2⟩ := hb
  refine con_intro Try.func12 Try.call12 rfl Try.ntmps12 rfl (L := [(0, _), (1, _)]) rfl fun w hh => ?_
  refine g_seq ?_
  refine g_region ?_
  refine g_pure (p_assign rfl) rfl ?_
  refine g_nil ?_
  refine g_qt ?_
  refine g_seq ?_
  refine g_seq ?_
  refine g_region ?_
  refine g_pure (p_move rfl) rfl ?_
  refine g_pure (p_len (by rfl) rfl) rfl ?_
  refine g_pure (p_move rfl) rfl ?_
  refine g_pure (p_len (by rfl) rfl) rfl ?_
  refine g_pure (p_neq rfl rfl) rfl ?_
  refine g_nil ?_
  refine g_qt ?_
  refine g_ifnd rfl (fun e => ?_) (fun e => ?_)
  · have hne : xs ≠ ys := fun h => e (by rw [h])
    refine g_seq ?_
    refine g_region ?_
    refine g_pure (p_assign rfl) rfl ?_
    refine g_nil ?_
    refine g_qt ?_
    refine g_ret ?_
    refine g_qt_ret ?_
    exact g_post (rs := [.tmp 4]) rfl (.tmp rfl .nil) ⟨by rw [decide_eq_false hne]; rfl, rfl⟩ .nil
  · have hle : xs.length = ys.length := by omega
    refine g_skip ?_
    refine g_qt ?_
    refine g_seq ?_
    refine g_seq ?_
    refine g_region ?_
    refine g_pure (p_assign rfl) rfl ?_
    refine g_nil ?_
    refine g_qt ?_
    refine g_block ?_
    refine g_loop (fun i : Nat => [(0, .slice a xs.length c), (1, .slice b ys.length d), (5, .int .i64 i)])
      (fun _ => []) (fun i => i ≤ xs.length ∧ xs.take i = ys.take i) (fun i => xs.length - i) 0 ⟨Nat.zero_le _, rfl⟩ (by repeat (first | exact trivial | refine ⟨by rfl, ?_⟩)) (by repeat' (first | exact Cover.nil | exact Take.here | apply Cover.cons | apply Take.there)) ?_
    rintro i ⟨hi, htk⟩
    refine g_seq ?_
    refine g_seq ?_
    refine g_region ?_
    refine g_pure (p_move rfl) rfl ?_
    refine g_pure (p_move rfl) rfl ?_
    refine g_pure (p_len (by rfl) rfl) rfl ?_
    refine g_pure (p_lss rfl rfl) rfl ?_
    refine g_nil ?_
    refine g_qt ?_
    refine g_ifd rfl (fun q => ?_) (fun q => ?_)
    · have hil : i < xs.length := by omega
      obtain ⟨l1, l2, l3⟩ := h1 (by omega)
      obtain ⟨m1, m2, m3⟩ := h2 (by omega)
      have x1 : k1[o1 + (i : Int).toNat * 1]? = some (encB xs[i]) := flat2 l3 (i := i) (by rw [List.getElem?_map, List.getElem?_eq_getElem hil]; rfl) (by simp)
      have x2 : k2[o2 + (i : Int).toNat * 1]? = some (encB (ys[i]'(by omega))) := flat2 m3 (i := i) (by rw [List.getElem?_map, List.getElem?_eq_getElem (by omega)]; rfl) (by simp)
      refine g_skip ?_
      refine g_qt ?_
      refine g_seq ?_
      refine g_block ?_
      refine g_seq ?_
      refine m_begin0 (.fl 0 0 (.fl 1 0 (.fl 2 0 (.fl 3 1 (.fl 4 0 (.fl 5 0 (.fl 6 0 (.fl 7 1 (.fl 8 0 .done))))))))) (by kernel_rfl) (by kernel_rfl) ?_
      refine m_float0 rfl (fun _ _ => p_move rfl) rfl ?_
      refine m_float0 rfl (fun _ _ => p_move rfl) rfl ?_
      refine m_float0 rfl (fun _ _ => p_indexAddr rfl rfl (by omega) (fun _ => l1)) rfl ?_
      refine m_float rfl (p_load (by rfl) rfl (Has.ro l2) x1) rfl ?_
      refine m_float0 rfl (fun _ _ => p_move rfl) rfl ?_
      refine m_float0 rfl (fun _ _ => p_move rfl) rfl ?_
      refine m_float0 rfl (fun _ _ => p_indexAddr rfl rfl (by omega) (fun _ => m1)) rfl ?_
      refine m_float rfl (p_load (by rfl) rfl (Has.ro m2) x2) rfl ?_
      refine m_float0 rfl (fun _ _ => p_neqb (by rfl) rfl rfl) rfl ?_
      refine m_nil ?_
      refine g_qt ?_
      refine g_if rfl (fun r => ?_) (fun r => ?_)
      · have hne : xs ≠ ys := fun h => by subst h; simp at r
        refine g_seq ?_
        refine g_region ?_
        refine g_pure (p_assign rfl) rfl ?_
        refine g_nil ?_
        refine g_qt ?_
        refine g_ret ?_
        refine g_qb_ret ?_
        refine g_qt_ret ?_
        refine g_qn_ret ?_
        refine g_qb_ret ?_
        refine g_qt_ret ?_
        exact g_post (rs := [.tmp 4]) rfl (.tmp rfl .nil) ⟨by rw [decide_eq_false hne]; rfl, rfl⟩ .nil
      · have heq : xs[i] = ys[i]'(by omega) := by simpa using r
        refine g_skip ?_
        refine g_qb ?_
        refine g_qt ?_
        refine g_region ?_
        refine g_pure (p_move rfl) rfl ?_
        first | refine g_pure (p_addi rfl rfl (by omega)) rfl ?_ | refine g_pure (p_add rfl rfl) rfl ?_
        refine g_pure (p_assign rfl) rfl ?_
        refine g_nil ?_
        refine g_qn ?_
        exact g_next (i + 1) (by repeat (first | exact trivial | refine ⟨by rfl, ?_⟩)) (by repeat' (first | exact Cover.nil | exact Take.here | apply Cover.cons | apply Take.there)) ⟨by omega, by rw [List.take_add_one, List.take_add_one, htk, List.getElem?_eq_getElem hil, List.getElem?_eq_getElem (by omega), heq]⟩ (by omega)
    · have hie : i = xs.length := by omega
      rw [hie, List.take_length, List.take_of_length_le (by omega)] at htk
      refine g_exit ?_
      refine g_qt_exit ?_
      refine g_qn_exit ?_
      refine g_qb_exit ?_
      refine g_qt ?_
      refine g_seq ?_
      refine g_region ?_
      refine g_pure (p_assign rfl) rfl ?_
      refine g_nil ?_
      refine g_qt ?_
      refine g_ret ?_
      exact g_post (rs := [.tmp 4]) rfl (.tmp rfl .nil) ⟨by rw [decide_eq_true htk]; rfl, rfl⟩ .nil

theorem ints_ok {ρ : Nat → Obj → Prop} {a b : Option Addr} {c d : Nat} {xs ys : List Int} (ha : RSl ρ 1 a xs.length (xs.map encI)) (hb : RSl ρ 1 b ys.length (ys.map encI)) (hl : xs.length ≤ 9223372036854775806) (hl2 : ys.length ≤ 9223372036854775806) :
    Con Try.prog ρ 15 #[.slice a xs.length c, .slice b ys.length d] [] (fun v H => v = .bool (decide (xs = ys)) ∧ H = []) := by
  obtain ⟨_, b1, o1, k1, T1, f1, h1⟩ := ha
  obtain ⟨_, b2, o2, k2, T2, f2, h2⟩ := hb
  refine con_intro Try.func15 Try.call15 rfl Try.ntmps15 rfl (L := [(0, _), (1, _)]) rfl fun w hh => ?_
  refine g_seq ?_
  refine g_region ?_
  refine g_pure (p_assign rfl) rfl ?_
  refine g_nil ?_
  refine g_qt ?_
  refine g_seq ?_
  refine g_seq ?_
  refine g_region ?_
  refine g_pure (p_move rfl) rfl ?_
  refine g_pure (p_len (by rfl) rfl) rfl ?_
  refine g_pure (p_move rfl) rfl ?_
  refine g_pure (p_len (by rfl) rfl) rfl ?_
  refine g_pure (p_neq rfl rfl) rfl ?_
  refine g_nil ?_
  refine g_qt ?_
  refine g_ifnd rfl (fun e => ?_) (fun e => ?_)
  · have hne : xs ≠ ys := fun h => e (by rw [h])
    refine g_seq ?_
    refine g_region ?_
    refine g_pure (p_assign rfl) rfl ?_
    refine g_nil ?_
    refine g_qt ?_
    refine g_ret ?_
    refine g_qt_ret ?_
    exact g_post (rs := [.tmp 4]) rfl (.tmp rfl .nil) ⟨by rw [decide_eq_false hne]; rfl, rfl⟩ .nil
  · have hle : xs.length = ys.length := by omega
    refine g_skip ?_
    refine g_qt ?_
    refine g_seq ?_
    refine g_seq ?_
    refine g_region ?_
    refine g_pure (p_assign rfl) rfl ?_
    refine g_nil ?_
    refine g_qt ?_
    refine g_block ?_
    refine g_loop (fun i : Nat => [(0, .slice a xs.length c), (1, .slice b ys.length d), (5, .int .i64 i)])
      (fun _ => []) (fun i => i ≤ xs.length ∧ xs.take i = ys.take i) (fun i => xs.length - i) 0 ⟨Nat.zero_le _, rfl⟩ (by repeat (first | exact trivial | refine ⟨by rfl, ?_⟩)) (by repeat' (first | exact Cover.nil | exact Take.here | apply Cover.cons | apply Take.there)) ?_
    rintro i ⟨hi, htk⟩
    refine g_seq ?_
    refine g_seq ?_
    refine g_region ?_
    refine g_pure (p_move rfl) rfl ?_
    refine g_pure (p_move rfl) rfl ?_
    refine g_pure (p_len (by rfl) rfl) rfl ?_
    refine g_pure (p_lss rfl rfl) rfl ?_
    refine g_nil ?_
    refine g_qt ?_
    refine g_ifd rfl (fun q => ?_) (fun q => ?_)
    · have hil : i < xs.length := by omega
      obtain ⟨l1, l2, l3⟩ := h1 (by omega)
      obtain ⟨m1, m2, m3⟩ := h2 (by omega)
      have x1 : k1[o1 + (i : Int).toNat * 1]? = some (encI xs[i]) := flat2 l3 (i := i) (mapI _ hil) (by simp)
      have x2 : k2[o2 + (i : Int).toNat * 1]? = some (encI (ys[i]'(by omega))) := flat2 m3 (i := i) (mapI _ (by omega)) (by simp)
      refine g_skip ?_
      refine g_qt ?_
      refine g_seq ?_
      refine g_block ?_
      refine g_seq ?_
      refine m_begin0 (.fl 0 0 (.fl 1 0 (.fl 2 0 (.fl 3 1 (.fl 4 0 (.fl 5 0 (.fl 6 0 (.fl 7 1 (.fl 8 0 .done))))))))) (by kernel_rfl) (by kernel_rfl) ?_
      refine m_float0 rfl (fun _ _ => p_move rfl) rfl ?_
      refine m_float0 rfl (fun _ _ => p_move rfl) rfl ?_
      refine m_float0 rfl (fun _ _ => p_indexAddr rfl rfl (by omega) (fun _ => l1)) rfl ?_
      refine m_float rfl (p_load (by rfl) rfl (Has.ro l2) x1) rfl ?_
      refine m_float0 rfl (fun _ _ => p_move rfl) rfl ?_
      refine m_float0 rfl (fun _ _ => p_move rfl) rfl ?_
      refine m_float0 rfl (fun _ _ => p_indexAddr rfl rfl (by omega) (fun _ => m1)) rfl ?_
      refine m_float rfl (p_load (by rfl) rfl (Has.ro m2) x2) rfl ?_
      refine m_float0 rfl (fun _ _ => p_neq rfl rfl) rfl ?_
      refine m_nil ?_
      refine g_qt ?_
      refine g_ifnd rfl (fun r => ?_) (fun r => ?_)
      · have hne : xs ≠ ys := fun h => by subst h; exact r rfl
        refine g_seq ?_
        refine g_region ?_
        refine g_pure (p_assign rfl) rfl ?_
        refine g_nil ?_
        refine g_qt ?_
        refine g_ret ?_
        refine g_qb_ret ?_
        refine g_qt_ret ?_
        refine g_qn_ret ?_
        refine g_qb_ret ?_
        refine g_qt_ret ?_
        exact g_post (rs := [.tmp 4]) rfl (.tmp rfl .nil) ⟨by rw [decide_eq_false hne]; rfl, rfl⟩ .nil
      · refine g_skip ?_
        refine g_qb ?_
        refine g_qt ?_
        refine g_region ?_
        refine g_pure (p_move rfl) rfl ?_
        first | refine g_pure (p_addi rfl rfl (by omega)) rfl ?_ | refine g_pure (p_add rfl rfl) rfl ?_
        refine g_pure (p_assign rfl) rfl ?_
        refine g_nil ?_
        refine g_qn ?_
        exact g_next (i + 1) (by repeat (first | exact trivial | refine ⟨by rfl, ?_⟩)) (by repeat' (first | exact Cover.nil | exact Take.here | apply Cover.cons | apply Take.there)) ⟨by omega, by rw [List.take_add_one, List.take_add_one, htk, List.getElem?_eq_getElem hil, List.getElem?_eq_getElem (by omega), r]⟩ (by omega)
    · have hie : i = xs.length := by omega
      rw [hie, List.take_length, List.take_of_length_le (by omega)] at htk
      refine g_exit ?_
      refine g_qt_exit ?_
      refine g_qn_exit ?_
      refine g_qb_exit ?_
      refine g_qt ?_
      refine g_seq ?_
      refine g_region ?_
      refine g_pure (p_assign rfl) rfl ?_
      refine g_nil ?_
      refine g_qt ?_
      refine g_ret ?_
      exact g_post (rs := [.tmp 4]) rfl (.tmp rfl .nil) ⟨by rw [decide_eq_true htk]; rfl, rfl⟩ .nil
end Go.Proofs.Ytbpgblbhikeglaa
