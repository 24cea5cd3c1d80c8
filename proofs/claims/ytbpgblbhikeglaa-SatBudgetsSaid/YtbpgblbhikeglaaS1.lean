/- Chapter 37: formulas, and their checks. Conditions: none. -/
import Derived.Test.YtbpgblbhikeglaaTy
import Derived.Test.YtbpgblbhikeglaaZi
import Derived.Test.YtbpgblbhikeglaaS0
namespace Go.Proofs.Ytbpgblbhikeglaa
set_option linter.unusedVariables false
set_option linter.unusedSimpArgs false
set_option linter.unusedSectionVars false
open Go Go.Z Go.Z.Sat

def encI (i : Int) : Value := .int .i64 i
def encB (b : Bool) : Value := .bool b
def I64 (a : Int) : Prop := -9223372036854775808 ≤ a ∧ a ≤ 9223372036854775807

/-- the clauses of a formula, which nobody writes -/
structure FmR (ρ : Nat → Obj → Prop) (ca : Option Addr) (F : Fm) : Prop where
  rows : RSl2 ρ ca (F.map fun c => c.map encI)
  len : F.length ≤ 9223372036854775806
  lens : ∀ c ∈ F, c.length ≤ 9223372036854775807
  lits : ∀ c ∈ F, ∀ x ∈ c, I64 x
theorem FmR.mono {ρ ρ' : Nat → Obj → Prop} {ca : Option Addr} {F : Fm} (h : FmR ρ ca F) (s : ∀ b o, ρ b o → ρ' b o) : FmR ρ' ca F := ⟨h.rows.mono s, h.len, h.lens, h.lits⟩
theorem FmR.at {ρ : Nat → Obj → Prop} {ca : Option Addr} {F : Fm} (h : FmR ρ ca F) (h0 : 0 < F.length) :
    ∃ b off cs T fz, ca = some ⟨b, off, none⟩ ∧ ρ b (.cells (cs : List Value).toArray T fz) ∧ ∀ j (hj : j < F.length), ∃ ai ci, cs[off + j * 1]? = some (.slice ai F[j].length ci) ∧ RSl ρ 1 ai F[j].length (F[j].map encI) := by
  obtain ⟨b, off, cs, T, fz, r1, r2, r3⟩ := h.rows.at (by simpa using h0)
  refine ⟨b, off, cs, T, fz, r1, r2, fun j hj => ?_⟩
  obtain ⟨ai, ci, e1, e2⟩ := r3 j (by simpa using hj)
  rw [List.getElem_map, List.length_map] at e1 e2
  exact ⟨ai, ci, by rw [Nat.mul_one]; exact e1, e2⟩

theorem flat2 {cs xs : List Value} {o i : Nat} {v : Value} (h : ∀ j v, xs[j]? = some v → cs[o + j]? = some v) (hv : xs[i]? = some v) {j : Nat} (hj : j = o + i * 1) : cs[j]? = some v := by
  subst hj; rw [Nat.mul_one]; exact h i v hv
theorem own_at {cur xs : List Value} {N k i : Nat} {v : Value} (h : cur.take (N * 1) = xs) (hi : i = 0 + k * 1) (hv : xs[k]? = some v) : cur[i]? = some v := by
  subst hi
  rw [← h, List.getElem?_take] at hv
  split at hv
  · simpa using hv
  · cases hv
theorem mapI (c : List Int) {k : Nat} (hk : k < c.length) : (c.map encI)[k]? = some (encI c[k]) := by simp [List.getElem?_eq_getElem hk]

def okB (n x : Int) : Bool := !(decide (x = 0) || (decide (n < x) || decide (x < -n)))
def allB (n : Int) (F : Fm) : Bool := F.all fun c => c.all (okB n)
def check1 (n : Int) (F : Fm) : Int := if 262144 < n then 3 else if n < 0 then 14 else if allB n F then 0 else 14
theorem allB_no {n : Int} {F : Fm} {i j : Nat} (hi : i < F.length) (hj : j < F[i].length) (h : okB n F[i][j] = false) : allB n F = false := by
  unfold allB
  rw [← Bool.not_eq_true, List.all_eq_true]
  intro hh
  have := List.all_eq_true.1 (hh F[i] (List.getElem_mem hi)) F[i][j] (List.getElem_mem hj)
  rw [h] at this; cases this
theorem take_all {α : Type} (p : α → Bool) (l : List α) (k : Nat) (hk : k < l.length) (h : (l.take k).all p = true) (h2 : p l[k] = true) : (l.take (k + 1)).all p = true := by
  rw [List.take_add_one, List.getElem?_eq_getElem hk, Option.toList_some, List.all_append, h]; simp [h2]

theorem check_ok {ρ : Nat → Obj → Prop} (n : Int) (hn : I64 n) (ca : Option Addr) (cc : Nat) (F : Fm) (hF : FmR ρ ca F) : Con Try.prog ρ 16 #[.agg #[.int .i64 n, .slice ca F.length cc]] [] (fun v H => v = .int .i64 (check1 n F) ∧ H = []) := by
  have hlen := hF.len
  unfold I64 at hn
  refine con_intro Try.func16 Try.call16 rfl Try.ntmps16 rfl (L := [(0, _)]) rfl fun w hh => ?_
  refine g_seq ?_
  refine g_region ?_
  refine g_eff (e_box rfl (by rfl)) rfl (fun _ _ => ?_)
  rintro ⟨b1, rfl, rfl⟩
  refine g_pure (p_assign rfl) rfl ?_
  refine g_nil ?_
  refine g_qt ?_
  refine g_seq ?_
  refine g_seq ?_
  refine g_region ?_
  refine g_pure (p_fieldAddr rfl) rfl ?_
  refine g_pure (p_load (by rfl) rfl (by first | (apply Has.own; (repeat' (first | exact Take.here | apply Take.there)); done) | exact Has.ro (by assumption)) (by first | rfl | assumption)) rfl ?_
  refine g_pure (p_gtr rfl rfl) rfl ?_
  refine g_nil ?_
  refine g_qt ?_
  refine g_ifd rfl (fun h1 => ?_) (fun h1 => ?_)
  · refine g_seq ?_
    refine g_region ?_
    refine g_pure (p_assign rfl) rfl ?_
    refine g_nil ?_
    refine g_qt ?_
    refine g_ret ?_
    refine g_qt_ret ?_
    exact g_post (rs := [.tmp 2]) rfl (.tmp rfl .nil) ⟨by unfold check1; rw [if_pos h1]; rfl, rfl⟩ .nil
  · refine g_skip ?_
    refine g_qt ?_
    refine g_seq ?_
    refine g_seq ?_
    refine g_region ?_
    refine g_pure (p_fieldAddr rfl) rfl ?_
    refine g_pure (p_load (by rfl) rfl (by first | (apply Has.own; (repeat' (first | exact Take.here | apply Take.there)); done) | exact Has.ro (by assumption)) (by first | rfl | assumption)) rfl ?_
    refine g_pure (p_lss rfl rfl) rfl ?_
    refine g_nil ?_
    refine g_qt ?_
    refine g_ifd rfl (fun h2 => ?_) (fun h2 => ?_)
    · refine g_seq ?_
      refine g_region ?_
      refine g_pure (p_assign rfl) rfl ?_
      refine g_nil ?_
      refine g_qt ?_
      refine g_ret ?_
      refine g_qt_ret ?_
      exact g_post (rs := [.tmp 2]) rfl (.tmp rfl .nil) ⟨by unfold check1; rw [if_neg h1, if_pos h2]; rfl, rfl⟩ .nil
    · have e0 : check1 n F = if allB n F then 0 else 14 := by unfold check1; rw [if_neg h1, if_neg h2]
      refine g_skip ?_
      refine g_qt ?_
      refine g_seq ?_
      refine g_seq ?_
      refine g_region ?_
      refine g_pure (p_fieldAddr rfl) rfl ?_
      refine g_pure (p_load (by rfl) rfl (by first | (apply Has.own; (repeat' (first | exact Take.here | apply Take.there)); done) | exact Has.ro (by assumption)) (by first | rfl | assumption)) rfl ?_
      refine g_pure (p_len (by rfl) rfl) rfl ?_
      refine g_pure (p_move rfl) rfl ?_
      refine g_nil ?_
      refine g_qt ?_
      refine g_block ?_
      refine g_loop (fun i : Nat => [(1, .pointer (some ⟨b1, 0, none⟩)), (14, .slice ca F.length cc), (15, .int .i64 F.length), (16, .int .i64 i)])
        (fun _ => [Blk b1 (.cells [.int .i64 n, .slice ca F.length cc].toArray 24 (0, 0))]) (fun i => i ≤ F.length ∧ (F.take i).all (fun c => c.all (okB n)) = true) (fun i => F.length - i) 0 ⟨Nat.zero_le _, rfl⟩ (by repeat (first | exact trivial | refine ⟨by rfl, ?_⟩)) (by repeat' (first | exact Cover.nil | exact Take.here | apply Cover.cons | apply Take.there)) ?_
      rintro i ⟨hi, hall⟩
      refine g_seq ?_
      refine g_region ?_
      refine g_pure (p_lss rfl rfl) rfl ?_
      refine g_nil ?_
      refine g_qt ?_
      refine g_seq ?_
      refine g_ifd rfl (fun q => ?_) (fun q => ?_)
      · have hil : i < F.length := by omega
        obtain ⟨b, off, cs, T, fz, r1, r2, r3⟩ := hF.at (by omega)
        obtain ⟨ai, ci, x1, _, bi, oi, ki, Ti, fi, r4⟩ := r3 i hil
        have hcl := hF.lens F[i] (List.getElem_mem hil)
        refine g_skip ?_
        refine g_qt ?_
        refine g_seq ?_
        refine g_block ?_
        refine g_seq ?_
        refine g_region ?_
        refine g_pure (p_indexAddr rfl rfl (by omega) (fun _ => r1)) rfl ?_
        refine g_pure (p_load (by rfl) rfl (Has.ro r2) x1) rfl ?_
        refine g_pure (p_assign rfl) rfl ?_
        refine g_nil ?_
        refine g_qt ?_
        refine g_seq ?_
        refine g_region ?_
        refine g_pure (p_move rfl) rfl ?_
        refine g_pure (p_len (by rfl) rfl) rfl ?_
        refine g_pure (p_move rfl) rfl ?_
        refine g_nil ?_
        refine g_qt ?_
        refine g_block ?_
        refine g_loop (fun j : Nat => [(1, .pointer (some ⟨b1, 0, none⟩)), (14, .slice ca F.length cc), (15, .int .i64 F.length), (16, .int .i64 i), (20, .slice ai F[i].length ci), (21, .int .i64 F[i].length), (22, .int .i64 j)])
          (fun _ => [Blk b1 (.cells [.int .i64 n, .slice ca F.length cc].toArray 24 (0, 0))]) (fun j => j ≤ F[i].length ∧ (F[i].take j).all (okB n) = true) (fun j => F[i].length - j) 0 ⟨Nat.zero_le _, rfl⟩ (by repeat (first | exact trivial | refine ⟨by rfl, ?_⟩)) (by repeat' (first | exact Cover.nil | exact Take.here | apply Cover.cons | apply Take.there)) ?_
        rintro j ⟨hj, hall2⟩
        refine g_seq ?_
        refine g_region ?_
        refine g_pure (p_lss rfl rfl) rfl ?_
        refine g_nil ?_
        refine g_qt ?_
        refine g_seq ?_
        refine g_ifd rfl (fun s => ?_) (fun s => ?_)
        · have hjl : j < F[i].length := by omega
          obtain ⟨r5, r6, r7⟩ := r4 (by omega)
          have x2 : ki[oi + (j : Int).toNat * 1]? = some (encI F[i][j]) := flat2 r7 (i := j) (mapI _ hjl) (by simp)
          have hI := hF.lits F[i] (List.getElem_mem hil) F[i][j] (List.getElem_mem hjl)
          refine g_skip ?_
          refine g_qt ?_
          refine g_seq ?_
          refine g_block ?_
          refine g_seq ?_
          refine g_region ?_
          refine g_pure (p_indexAddr rfl rfl (by omega) (fun _ => r5)) rfl ?_
          refine g_pure (p_load (by rfl) rfl (Has.ro r6) x2) rfl ?_
          refine g_pure (p_assign rfl) rfl ?_
          refine g_nil ?_
          refine g_qt ?_
          refine g_seq ?_
          refine g_region ?_
          refine g_pure (p_move rfl) rfl ?_
          refine g_pure (p_eql rfl rfl) rfl ?_
          refine g_pure (p_move rfl) rfl ?_
          refine g_splitd rfl rfl (fun y1 => ?_) (fun y1 => ?_)
          · refine g_no rfl rfl rfl rfl ?_
            refine g_no rfl rfl rfl rfl ?_
            refine g_no rfl rfl rfl rfl ?_
            refine g_no rfl rfl rfl rfl ?_
            first | refine g_pure (p_pickt rfl rfl) rfl ?_ | refine g_pure (p_pickf rfl rfl) rfl ?_
            refine g_pure (p_move rfl) rfl ?_
            refine g_no rfl rfl rfl rfl ?_
            refine g_no rfl rfl rfl rfl ?_
            refine g_no rfl rfl rfl rfl ?_
            refine g_no rfl rfl rfl rfl ?_
            refine g_no rfl rfl rfl rfl ?_
            first | refine g_pure (p_pickt rfl rfl) rfl ?_ | refine g_pure (p_pickf rfl rfl) rfl ?_
            refine g_nil ?_
            refine g_qt ?_
            refine g_ift rfl ?_
            refine g_seq ?_
            refine g_region ?_
            refine g_pure (p_assign rfl) rfl ?_
            refine g_nil ?_
            refine g_qt ?_
            refine g_ret ?_
            refine g_qb_ret ?_
            refine g_qt_ret ?_
            refine g_qn_ret ?_
            refine g_qb_ret ?_
            refine g_qb_ret ?_
            refine g_qt_ret ?_
            refine g_qn_ret ?_
            refine g_qb_ret ?_
            refine g_qt_ret ?_
            have e : check1 n F = 14 := by rw [e0, allB_no hil hjl (by simp [okB, y1])]; rfl
            exact g_post (rs := [.tmp 2]) rfl (.tmp rfl .nil) ⟨by rw [e]; rfl, rfl⟩ .nil
          · refine g_yes rfl rfl ?_
            refine g_pure (p_move rfl) rfl ?_
            refine g_yes rfl rfl ?_
            refine g_pure (p_fieldAddr rfl) rfl ?_
            refine g_yes rfl rfl ?_
            refine g_pure (p_load (by rfl) rfl (by first | (apply Has.own; (repeat' (first | exact Take.here | apply Take.there)); done) | exact Has.ro (by assumption)) (by first | rfl | assumption)) rfl ?_
            refine g_yes rfl rfl ?_
            refine g_pure (p_gtr rfl rfl) rfl ?_
            first | refine g_pure (p_pickt rfl rfl) rfl ?_ | refine g_pure (p_pickf rfl rfl) rfl ?_
            refine g_pure (p_move rfl) rfl ?_
            refine g_splitd rfl rfl (fun y2 => ?_) (fun y2 => ?_)
            · refine g_no rfl rfl rfl rfl ?_
              refine g_no rfl rfl rfl rfl ?_
              refine g_no rfl rfl rfl rfl ?_
              refine g_no rfl rfl rfl rfl ?_
              refine g_no rfl rfl rfl rfl ?_
              first | refine g_pure (p_pickt rfl rfl) rfl ?_ | refine g_pure (p_pickf rfl rfl) rfl ?_
              refine g_nil ?_
              refine g_qt ?_
              refine g_ift rfl ?_
              refine g_seq ?_
              refine g_region ?_
              refine g_pure (p_assign rfl) rfl ?_
              refine g_nil ?_
              refine g_qt ?_
              refine g_ret ?_
              refine g_qb_ret ?_
              refine g_qt_ret ?_
              refine g_qn_ret ?_
              refine g_qb_ret ?_
              refine g_qb_ret ?_
              refine g_qt_ret ?_
              refine g_qn_ret ?_
              refine g_qb_ret ?_
              refine g_qt_ret ?_
              have e : check1 n F = 14 := by rw [e0, allB_no hil hjl (by simp [okB, y2])]; rfl
              exact g_post (rs := [.tmp 2]) rfl (.tmp rfl .nil) ⟨by rw [e]; rfl, rfl⟩ .nil
            · refine g_yes rfl rfl ?_
              refine g_pure (p_move rfl) rfl ?_
              refine g_yes rfl rfl ?_
              refine g_pure (p_fieldAddr rfl) rfl ?_
              refine g_yes rfl rfl ?_
              refine g_pure (p_load (by rfl) rfl (by first | (apply Has.own; (repeat' (first | exact Take.here | apply Take.there)); done) | exact Has.ro (by assumption)) (by first | rfl | assumption)) rfl ?_
              refine g_yes rfl rfl ?_
              first | refine g_pure (p_negi rfl (by omega)) rfl ?_ | refine g_pure (p_neg rfl) rfl ?_
              refine g_yes rfl rfl ?_
              refine g_pure (p_lss rfl rfl) rfl ?_
              first | refine g_pure (p_pickt rfl rfl) rfl ?_ | refine g_pure (p_pickf rfl rfl) rfl ?_
              refine g_nil ?_
              refine g_qt ?_
              refine g_ifd rfl (fun y3 => ?_) (fun y3 => ?_)
              · refine g_seq ?_
                refine g_region ?_
                refine g_pure (p_assign rfl) rfl ?_
                refine g_nil ?_
                refine g_qt ?_
                refine g_ret ?_
                refine g_qb_ret ?_
                refine g_qt_ret ?_
                refine g_qn_ret ?_
                refine g_qb_ret ?_
                refine g_qb_ret ?_
                refine g_qt_ret ?_
                refine g_qn_ret ?_
                refine g_qb_ret ?_
                refine g_qt_ret ?_
                have e : check1 n F = 14 := by rw [e0, allB_no hil hjl (by simp [okB, y3])]; rfl
                exact g_post (rs := [.tmp 2]) rfl (.tmp rfl .nil) ⟨by rw [e]; rfl, rfl⟩ .nil
              · refine g_skip ?_
                refine g_qb ?_
                refine g_qt ?_
                refine g_region ?_
                first | refine g_pure (p_addi rfl rfl (by omega)) rfl ?_ | refine g_pure (p_add rfl rfl) rfl ?_
                refine g_pure (p_move rfl) rfl ?_
                refine g_nil ?_
                refine g_qn ?_
                exact g_next (j + 1) (by repeat (first | exact trivial | refine ⟨by rfl, ?_⟩)) (by repeat' (first | exact Cover.nil | exact Take.here | apply Cover.cons | apply Take.there)) ⟨by omega, take_all _ _ _ hjl hall2 (by simp [okB, y1, y2, y3])⟩ (by omega)
        · have hje : j = F[i].length := by omega
          rw [hje, List.take_length] at hall2
          refine g_exit ?_
          refine g_qt_exit ?_
          refine g_qn_exit ?_
          refine g_qb_exit ?_
          refine g_qb ?_
          refine g_qt ?_
          refine g_region ?_
          first | refine g_pure (p_addi rfl rfl (by omega)) rfl ?_ | refine g_pure (p_add rfl rfl) rfl ?_
          refine g_pure (p_move rfl) rfl ?_
          refine g_nil ?_
          refine g_qn ?_
          exact g_next (i + 1) (by repeat (first | exact trivial | refine ⟨by rfl, ?_⟩)) (by repeat' (first | exact Cover.nil | exact Take.here | apply Cover.cons | apply Take.there)) ⟨by omega, take_all _ _ _ hil hall hall2⟩ (by omega)
      · have hie : i = F.length := by omega
        rw [hie, List.take_length] at hall
        have e : check1 n F = 0 := by rw [e0, show allB n F = true from hall]; rfl
        refine g_exit ?_
        refine g_qt_exit ?_
        refine g_qn_exit ?_
        refine g_qb_exit ?_
        refine g_qt ?_
        refine g_seq ?_
        refine g_region ?_
        refine g_pure (p_assign rfl) rfl ?_
        refine g_nil ?_
        refine g_qt ?_
        refine g_ret ?_
        exact g_post (rs := [.tmp 2]) rfl (.tmp rfl .nil) ⟨by rw [e]; rfl, rfl⟩ .nil
end Go.Proofs.Ytbpgblbhikeglaa
