/- Chapter 37: whether a model satisfies a formula. Conditions: none. -/
import Derived.Test.YtbpgblbhikeglaaV3
namespace Go.Z.Sat
set_option linter.unusedVariables false
set_option linter.unusedSimpArgs false
set_option linter.unusedSectionVars false
open Go Go.Z Go.Proofs.Ytbpgblbhikeglaa
/-- a literal under a model -/
def mt (xs : List Bool) (l : Int) : Bool := if l < 0 then !(xs.getD (-l - 1).toNat false) else xs.getD (l - 1).toNat false
def rightB (n : Int) (F : Fm) (xs : List Bool) : Bool := decide (check1 n F = 0) && (decide ((xs.length : Int) = n) && F.all fun c => c.any (mt xs))
end Go.Z.Sat
namespace Go.Proofs.Ytbpgblbhikeglaa
open Go Go.Z Go.Z.Sat

theorem idxI_ok {ρ : Nat → Obj → Prop} (al : Option Addr) (cl : Nat) (ls : List Int) (hl : RSl ρ 1 al ls.length (ls.map encI)) (hlen : ls.length ≤ 9223372036854775807) (f : Nat) (cap : Array Value) (pred : Int → Bool) (hF : ∀ l ∈ ls, ∀ ρ', (∀ b o, ρ b o → ρ' b o) → Con Try.prog ρ' f (#[.int .i64 l] ++ cap) [] (fun v H => v = .bool (pred l) ∧ H = [])) :
    Con Try.prog ρ 44 #[.slice al ls.length cl, .func (.func f) #[] cap] [] (fun v H => v = .int .i64 (match ls.findIdx? pred with | some i => (i : Int) | none => -1) ∧ H = []) := by
  obtain ⟨_, b, off, cs, T, fz, hr⟩ := hl
  refine con_intro Try.func44 Try.call44 rfl Try.ntmps44 rfl (L := [(0, _), (1, _)]) rfl fun w hh => ?_
  refine g_seq ?_
  refine g_region ?_
  refine g_pure (p_assign rfl) rfl ?_
  refine g_nil ?_
  refine g_qt ?_
  refine g_seq ?_
  refine g_seq ?_
  refine g_region ?_
  refine g_pure (p_move rfl) rfl ?_
  refine g_pure (p_len (by rfl) rfl) rfl ?_
  refine g_pure (p_move rfl) rfl ?_
  refine g_nil ?_
  refine g_qt ?_
  refine g_block ?_
  refine g_loop (fun k : Nat => [(0, .slice al ls.length cl), (1, .func (.func f) #[] cap), (7, .int .i64 ls.length), (8, .int .i64 k)]) (fun _ => []) (fun k => k ≤ ls.length ∧ ∀ l ∈ ls.take k, pred l = false) (fun k => ls.length - k) 0 ⟨Nat.zero_le _, by simp⟩ (by repeat (first | exact trivial | refine ⟨by rfl, ?_⟩)) .nil fun k ⟨hk, hno⟩ => ?_
  refine g_seq ?_
  refine g_region ?_
  refine g_pure (p_lss rfl rfl) rfl ?_
  refine g_nil ?_
  refine g_qt ?_
  refine g_seq ?_
  refine g_ifd rfl (fun h1 => ?_) (fun h1 => ?_)
  · have hk' : k < ls.length := by omega
    have hx : (ls.map encI)[k]? = some (.int .i64 ls[k]) := mapI _ hk'
    refine g_skip ?_
    refine g_qt ?_
    refine g_seq ?_
    refine g_block ?_
    refine g_seq ?_
    refine g_region ?_
    refine g_pure (p_move rfl) rfl ?_
    refine g_pure (p_assign rfl) rfl ?_
    refine g_nil ?_
    refine g_qt ?_
    refine g_seq ?_
    refine g_region ?_
    refine g_pure (p_move rfl) rfl ?_
    refine g_pure (p_move rfl) rfl ?_
    refine g_pure (p_move rfl) rfl ?_
    refine g_pure (p_indexAddr rfl rfl (by omega) (fun _ => (hr (by omega)).1)) rfl ?_
    refine g_pure (p_load (v := .int .i64 ls[k]) (by rfl) rfl (Has.ro (hr (by omega)).2.1) (by simpa using (hr (by omega)).2.2 k _ hx)) rfl ?_
    refine g_call (Hin := []) (Hr := ?hr1) (R := ?rr1) rfl rfl rfl ?hin1 ?hc1 ?hk1
    case hin1 => repeat' (first | exact Cover.nil | exact Take.here | apply Cover.cons | apply Take.there)
    case hc1 => intro ρ' hρ hR; exact hF _ (List.getElem_mem hk') ρ' hρ
    rintro _ _ ⟨rfl, rfl⟩
    refine g_nil ?_
    refine g_qt ?_
    refine g_if rfl (fun h2 => ?_) (fun h2 => ?_)
    · refine g_seq ?_
      refine g_region ?_
      refine g_pure (p_move rfl) rfl ?_
      refine g_pure (p_assign rfl) rfl ?_
      refine g_nil ?_
      refine g_qt ?_
      refine g_ret ?_
      refine g_qb_ret ?_
      refine g_qt_ret ?_
      refine g_qn_ret ?_
      refine g_qb_ret ?_
      refine g_qt_ret ?_
      refine g_post (rs := [.tmp 4]) rfl (.tmp rfl .nil) ⟨?_, rfl⟩ .nil
      have e : ls.findIdx? pred = some k := by
        rw [List.findIdx?_eq_some_iff_getElem]
        refine ⟨hk', h2, fun j hj => ?_⟩
        have := hno ls[j] (by rw [List.mem_take_iff_getElem]; exact ⟨j, by omega, rfl⟩)
        simp [this]
      rw [e]; rfl
    · refine g_skip ?_
      refine g_qb ?_
      refine g_qt ?_
      refine g_region ?_
      first | refine g_pure (p_addi rfl rfl (by omega)) rfl ?_ | refine g_pure (p_add rfl rfl) rfl ?_
      refine g_pure (p_move rfl) rfl ?_
      refine g_nil ?_
      refine g_qn ?_
      exact g_next (k + 1) (by repeat (first | exact trivial | refine ⟨by rfl, ?_⟩)) .nil ⟨by omega, all_take hk' hno h2⟩ (by omega)
  · refine g_exit ?_
    refine g_qt_exit ?_
    refine g_qn_exit ?_
    refine g_qb_exit ?_
    refine g_qt ?_
    refine g_seq ?_
    refine g_region ?_
    refine g_pure (p_assign rfl) rfl ?_
    refine g_nil ?_
    refine g_qt ?_
    refine g_ret ?_
    refine g_post (rs := [.tmp 4]) rfl (.tmp rfl .nil) ⟨?_, rfl⟩ .nil
    have e : ls.findIdx? pred = none := by
      rw [List.findIdx?_eq_none_iff]
      intro l hl
      exact hno l (by rw [List.take_of_length_le (by omega)]; exact hl)
    rw [e]; rfl

theorem any_of_idx {α : Type} {ls : List α} {pred : α → Bool} : decide (0 ≤ (match ls.findIdx? pred with | some i => (i : Int) | none => -1)) = ls.any pred := by
  cases h : ls.findIdx? pred with
  | none =>
    rw [List.findIdx?_eq_none_iff] at h
    have : ls.any pred = false := by rw [List.any_eq_false]; intro x hx; simp [h x hx]
    rw [this]; rfl
  | some i =>
    rw [List.findIdx?_eq_some_iff_getElem] at h
    obtain ⟨h1, h2, _⟩ := h
    have : ls.any pred = true := List.any_eq_true.2 ⟨_, List.getElem_mem h1, h2⟩
    rw [this]; simp

theorem anyI_ok {ρ : Nat → Obj → Prop} (al : Option Addr) (cl : Nat) (ls : List Int) (hl : RSl ρ 1 al ls.length (ls.map encI)) (hlen : ls.length ≤ 9223372036854775807) (f : Nat) (cap : Array Value) (pred : Int → Bool) (hF : ∀ l ∈ ls, ∀ ρ', (∀ b o, ρ b o → ρ' b o) → Con Try.prog ρ' f (#[.int .i64 l] ++ cap) [] (fun v H => v = .bool (pred l) ∧ H = [])) :
    Con Try.prog ρ 35 #[.slice al ls.length cl, .func (.func f) #[] cap] [] (fun v H => v = .bool (ls.any pred) ∧ H = []) := by
  refine con_intro Try.func35 Try.call35 rfl Try.ntmps35 rfl (L := [(0, _), (1, _)]) rfl fun w hh => ?_
  refine g_seq ?_
  refine g_region ?_
  refine g_pure (p_assign rfl) rfl ?_
  refine g_nil ?_
  refine g_qt ?_
  refine g_seq ?_
  refine g_region ?_
  refine g_pure (p_move rfl) rfl ?_
  refine g_pure (p_move rfl) rfl ?_
  refine g_call (Hin := []) (Hr := ?hr2) (R := ?rr2) rfl rfl rfl ?hin2 ?hc2 ?hk2
  case hin2 => repeat' (first | exact Cover.nil | exact Take.here | apply Cover.cons | apply Take.there)
  case hc2 => intro ρ' hρ hR; exact idxI_ok al cl ls (hl.mono hρ) hlen f cap pred (fun l h1 ρ2 h2 => hF l h1 ρ2 (fun b o h3 => h2 b o (hρ b o h3)))
  rintro _ _ ⟨rfl, rfl⟩
  refine g_pure (p_geq rfl rfl) rfl ?_
  refine g_pure (p_assign rfl) rfl ?_
  refine g_nil ?_
  refine g_qt ?_
  refine g_ret ?_
  exact g_post (rs := [.tmp 4]) rfl (.tmp rfl .nil) ⟨by rw [← any_of_idx]; rfl, rfl⟩ .nil

theorem idxC_ok {ρ : Nat → Obj → Prop} (ca : Option Addr) (cc : Nat) (F : Fm) (hF : FmR ρ ca F) (f : Nat) (cap : Array Value) (pred : Cl → Bool) (hP : ∀ c ∈ F, ∀ ρ', (∀ b o, ρ b o → ρ' b o) → ∀ ai ci, RSl ρ' 1 ai c.length (c.map encI) → Con Try.prog ρ' f (#[.slice ai c.length ci] ++ cap) [] (fun v H => v = .bool (pred c) ∧ H = [])) :
    Con Try.prog ρ 43 #[.slice ca F.length cc, .func (.func f) #[] cap] [] (fun v H => v = .int .i64 (match F.findIdx? pred with | some i => (i : Int) | none => -1) ∧ H = []) := by
  have hlen := hF.len
  refine con_intro Try.func43 Try.call43 rfl Try.ntmps43 rfl (L := [(0, _), (1, _)]) rfl fun w hh => ?_
  refine g_seq ?_
  refine g_region ?_
  refine g_pure (p_assign rfl) rfl ?_
  refine g_nil ?_
  refine g_qt ?_
  refine g_seq ?_
  refine g_seq ?_
  refine g_region ?_
  refine g_pure (p_move rfl) rfl ?_
  refine g_pure (p_len (by rfl) rfl) rfl ?_
  refine g_pure (p_move rfl) rfl ?_
  refine g_nil ?_
  refine g_qt ?_
  refine g_block ?_
  refine g_loop (fun k : Nat => [(0, .slice ca F.length cc), (1, .func (.func f) #[] cap), (7, .int .i64 F.length), (8, .int .i64 k)]) (fun _ => []) (fun k => k ≤ F.length ∧ ∀ l ∈ F.take k, pred l = false) (fun k => F.length - k) 0 ⟨Nat.zero_le _, by simp⟩ (by repeat (first | exact trivial | refine ⟨by rfl, ?_⟩)) .nil fun k ⟨hk, hno⟩ => ?_
  refine g_seq ?_
  refine g_region ?_
  refine g_pure (p_lss rfl rfl) rfl ?_
  refine g_nil ?_
  refine g_qt ?_
  refine g_seq ?_
  refine g_ifd rfl (fun h1 => ?_) (fun h1 => ?_)
  · have hk' : k < F.length := by omega
    obtain ⟨b, off, cs, T1, fz, r1, r2, r3⟩ := hF.at (by omega)
    obtain ⟨ai, ci, x1', hrow⟩ := r3 k hk'
    have x1 : cs[off + (k : Int).toNat * 1]? = some (.slice ai F[k].length ci) := x1'
    refine g_skip ?_
    refine g_qt ?_
    refine g_seq ?_
    refine g_block ?_
    refine g_seq ?_
    refine g_region ?_
    refine g_pure (p_move rfl) rfl ?_
    refine g_pure (p_assign rfl) rfl ?_
    refine g_nil ?_
    refine g_qt ?_
    refine g_seq ?_
    refine g_region ?_
    refine g_pure (p_move rfl) rfl ?_
    refine g_pure (p_move rfl) rfl ?_
    refine g_pure (p_move rfl) rfl ?_
    refine g_pure (p_indexAddr rfl rfl (by omega) (fun _ => r1)) rfl ?_
    refine g_pure (p_load (by rfl) rfl (Has.ro r2) x1) rfl ?_
    refine g_call (Hin := []) (Hr := ?hr3) (R := ?rr3) rfl rfl rfl ?hin3 ?hc3 ?hk3
    case hin3 => repeat' (first | exact Cover.nil | exact Take.here | apply Cover.cons | apply Take.there)
    case hc3 => intro ρ' hρ hR; exact hP _ (List.getElem_mem hk') ρ' hρ ai ci (hrow.mono hρ)
    rintro _ _ ⟨rfl, rfl⟩
    refine g_nil ?_
    refine g_qt ?_
    refine g_if rfl (fun h2 => ?_) (fun h2 => ?_)
    · refine g_seq ?_
      refine g_region ?_
      refine g_pure (p_move rfl) rfl ?_
      refine g_pure (p_assign rfl) rfl ?_
      refine g_nil ?_
      refine g_qt ?_
      refine g_ret ?_
      refine g_qb_ret ?_
      refine g_qt_ret ?_
      refine g_qn_ret ?_
      refine g_qb_ret ?_
      refine g_qt_ret ?_
      refine g_post (rs := [.tmp 4]) rfl (.tmp rfl .nil) ⟨?_, rfl⟩ .nil
      have e : F.findIdx? pred = some k := by
        rw [List.findIdx?_eq_some_iff_getElem]
        refine ⟨hk', h2, fun j hj => ?_⟩
        have := hno F[j] (by rw [List.mem_take_iff_getElem]; exact ⟨j, by omega, rfl⟩)
        simp [this]
      rw [e]; rfl
    · refine g_skip ?_
      refine g_qb ?_
      refine g_qt ?_
      refine g_region ?_
      first | refine g_pure (p_addi rfl rfl (by omega)) rfl ?_ | refine g_pure (p_add rfl rfl) rfl ?_
      refine g_pure (p_move rfl) rfl ?_
      refine g_nil ?_
      refine g_qn ?_
      exact g_next (k + 1) (by repeat (first | exact trivial | refine ⟨by rfl, ?_⟩)) .nil ⟨by omega, all_take hk' hno h2⟩ (by omega)
  · refine g_exit ?_
    refine g_qt_exit ?_
    refine g_qn_exit ?_
    refine g_qb_exit ?_
    refine g_qt ?_
    refine g_seq ?_
    refine g_region ?_
    refine g_pure (p_assign rfl) rfl ?_
    refine g_nil ?_
    refine g_qt ?_
    refine g_ret ?_
    refine g_post (rs := [.tmp 4]) rfl (.tmp rfl .nil) ⟨?_, rfl⟩ .nil
    have e : F.findIdx? pred = none := by
      rw [List.findIdx?_eq_none_iff]
      intro l hl
      exact hno l (by rw [List.take_of_length_le (by omega)]; exact hl)
    rw [e]; rfl
theorem anyC_ok {ρ : Nat → Obj → Prop} (ca : Option Addr) (cc : Nat) (F : Fm) (hF : FmR ρ ca F) (f : Nat) (cap : Array Value) (pred : Cl → Bool) (hP : ∀ c ∈ F, ∀ ρ', (∀ b o, ρ b o → ρ' b o) → ∀ ai ci, RSl ρ' 1 ai c.length (c.map encI) → Con Try.prog ρ' f (#[.slice ai c.length ci] ++ cap) [] (fun v H => v = .bool (pred c) ∧ H = [])) :
    Con Try.prog ρ 33 #[.slice ca F.length cc, .func (.func f) #[] cap] [] (fun v H => v = .bool (F.any pred) ∧ H = []) := by
  refine con_intro Try.func33 Try.call33 rfl Try.ntmps33 rfl (L := [(0, _), (1, _)]) rfl fun w hh => ?_
  refine g_seq ?_
  refine g_region ?_
  refine g_pure (p_assign rfl) rfl ?_
  refine g_nil ?_
  refine g_qt ?_
  refine g_seq ?_
  refine g_region ?_
  refine g_pure (p_move rfl) rfl ?_
  refine g_pure (p_move rfl) rfl ?_
  refine g_call (Hin := []) (Hr := ?hr4) (R := ?rr4) rfl rfl rfl ?hin4 ?hc4 ?hk4
  case hin4 => repeat' (first | exact Cover.nil | exact Take.here | apply Cover.cons | apply Take.there)
  case hc4 => intro ρ' hρ hR; exact idxC_ok ca cc F (hF.mono hρ) f cap pred (fun l h1 ρ2 h2 => hP l h1 ρ2 (fun b o h3 => h2 b o (hρ b o h3)))
  rintro _ _ ⟨rfl, rfl⟩
  refine g_pure (p_geq rfl rfl) rfl ?_
  refine g_pure (p_assign rfl) rfl ?_
  refine g_nil ?_
  refine g_qt ?_
  refine g_ret ?_
  exact g_post (rs := [.tmp 4]) rfl (.tmp rfl .nil) ⟨by rw [← any_of_idx]; rfl, rfl⟩ .nil

theorem right1_ok {ρ : Nat → Obj → Prop} {b3 mc : Nat} {ma : Option Addr} {xs : List Bool} (hb : ρ b3 (.cells [.slice ma xs.length mc].toArray 27 (0, 0))) (hm : RSl ρ 1 ma xs.length (xs.map encB)) (hlen : xs.length ≤ 262144) {l : Int} (hl : okL xs.length l) :
    Con Try.prog ρ 32 #[.int .i64 l, .pointer (some ⟨b3, 0, none⟩)] [] (fun v H => v = .bool (mt xs l) ∧ H = []) := by
  obtain ⟨_, b, off, cs, T, fz, hr⟩ := hm
  obtain ⟨h0, hl1, hl2⟩ := hl
  obtain ⟨r1, r2, r3⟩ := hr (by omega)
  have hget : ∀ k : Nat, k < xs.length → (xs.map encB)[k]? = some (encB (xs.getD k false)) := fun k hk => by
    rw [List.getElem?_map, List.getElem?_eq_getElem hk, List.getD_eq_getElem?_getD, List.getElem?_eq_getElem hk]; rfl
  refine con_intro Try.func32 Try.call32 rfl Try.ntmps32 rfl (L := [(0, _), (1, _)]) rfl fun w hh => ?_
  refine g_seq ?_
  refine g_region ?_
  refine g_pure (p_assign rfl) rfl ?_
  refine g_nil ?_
  refine g_qt ?_
  refine g_seq ?_
  refine g_seq ?_
  refine g_region ?_
  refine g_pure (p_move rfl) rfl ?_
  refine g_pure (p_lss rfl rfl) rfl ?_
  refine g_nil ?_
  refine g_qt ?_
  refine g_ifd rfl (fun h => ?_) (fun h => ?_)
  · have x1 : cs[off + (-l - 1).toNat * 1]? = some (encB (xs.getD (-l - 1).toNat false)) := flat2 r3 (hget _ (by omega)) rfl
    refine g_seq ?_
    refine g_region ?_
    refine g_pure (p_load (by rfl) rfl (by first | (apply Has.own; (repeat' (first | exact Take.here | apply Take.there)); done) | exact Has.ro (by assumption)) (by first | rfl | assumption)) rfl ?_
    refine g_pure (p_move rfl) rfl ?_
    first | refine g_pure (p_negi rfl (by omega)) rfl ?_ | refine g_pure (p_neg rfl) rfl ?_
    first | refine g_pure (p_subi rfl rfl (by omega)) rfl ?_ | refine g_pure (p_sub rfl rfl) rfl ?_
    refine g_pure (p_indexAddr rfl rfl (by omega) (fun _ => r1)) rfl ?_
    refine g_pure (p_load (by rfl) rfl (Has.ro r2) x1) rfl ?_
    refine g_pure (p_not rfl) rfl ?_
    refine g_pure (p_assign rfl) rfl ?_
    refine g_nil ?_
    refine g_qt ?_
    refine g_ret ?_
    refine g_qt_ret ?_
    exact g_post (rs := [.tmp 3]) rfl (.tmp rfl .nil) ⟨by unfold Sat.mt; rw [if_pos h]; rfl, rfl⟩ .nil
  · have x1 : cs[off + (l - 1).toNat * 1]? = some (encB (xs.getD (l - 1).toNat false)) := flat2 r3 (hget _ (by omega)) rfl
    refine g_skip ?_
    refine g_qt ?_
    refine g_seq ?_
    refine g_region ?_
    refine g_pure (p_load (by rfl) rfl (by first | (apply Has.own; (repeat' (first | exact Take.here | apply Take.there)); done) | exact Has.ro (by assumption)) (by first | rfl | assumption)) rfl ?_
    refine g_pure (p_move rfl) rfl ?_
    first | refine g_pure (p_subi rfl rfl (by omega)) rfl ?_ | refine g_pure (p_sub rfl rfl) rfl ?_
    refine g_pure (p_indexAddr rfl rfl (by omega) (fun _ => r1)) rfl ?_
    refine g_pure (p_load (by rfl) rfl (Has.ro r2) x1) rfl ?_
    refine g_pure (p_assign rfl) rfl ?_
    refine g_nil ?_
    refine g_qt ?_
    refine g_ret ?_
    exact g_post (rs := [.tmp 3]) rfl (.tmp rfl .nil) ⟨by unfold Sat.mt; rw [if_neg h]; rfl, rfl⟩ .nil

theorem right2_ok {ρ : Nat → Obj → Prop} {b3 b5 mc : Nat} {ma : Option Addr} {xs : List Bool} {T : TypeId} (h5 : ρ b5 (.cells [.func (.func 32) #[] #[.pointer (some ⟨b3, 0, none⟩)]].toArray T (0, 0))) (hb : ρ b3 (.cells [.slice ma xs.length mc].toArray 27 (0, 0))) (hm : RSl ρ 1 ma xs.length (xs.map encB)) (hlen : xs.length ≤ 262144) {c : Cl} (hl : ∀ l ∈ c, okL xs.length l) {ai : Option Addr} {ci : Nat} (hc : RSl ρ 1 ai c.length (c.map encI)) (hcl : c.length ≤ 1000000) :
    Con Try.prog ρ 34 #[.slice ai c.length ci, .pointer (some ⟨b5, 0, none⟩)] [] (fun v H => v = .bool (!c.any (mt xs)) ∧ H = []) := by
  refine con_intro Try.func34 Try.call34 rfl Try.ntmps34 rfl (L := [(0, _), (1, _)]) rfl fun w hh => ?_
  refine g_seq ?_
  refine g_region ?_
  refine g_pure (p_assign rfl) rfl ?_
  refine g_nil ?_
  refine g_qt ?_
  refine g_seq ?_
  refine g_region ?_
  refine g_pure (p_move rfl) rfl ?_
  refine g_pure (p_load (by rfl) rfl (by first | (apply Has.own; (repeat' (first | exact Take.here | apply Take.there)); done) | exact Has.ro (by assumption)) (by first | rfl | assumption)) rfl ?_
  refine g_call (Hin := []) (Hr := ?hr5) (R := ?rr5) rfl rfl rfl ?hin5 ?hc5 ?hk5
  case hin5 => repeat' (first | exact Cover.nil | exact Take.here | apply Cover.cons | apply Take.there)
  case hc5 => intro ρ' hρ hR; exact anyI_ok ai ci c (hc.mono hρ) (by omega) _ #[.pointer (some ⟨b3, 0, none⟩)] (mt xs) (fun l h1 ρ2 h2 => right1_ok (h2 _ _ (hρ _ _ hb)) (hm.mono (fun b o h3 => h2 b o (hρ b o h3))) hlen (hl l h1))
  rintro _ _ ⟨rfl, rfl⟩
  refine g_pure (p_not rfl) rfl ?_
  refine g_pure (p_assign rfl) rfl ?_
  refine g_nil ?_
  refine g_qt ?_
  refine g_ret ?_
  exact g_post (rs := [.tmp 3]) rfl (.tmp rfl .nil) ⟨rfl, rfl⟩ .nil

theorem right_ok {ρ : Nat → Obj → Prop} {n : Int} {ca : Option Addr} {cc : Nat} {F : Fm} (hF : FmI ρ n ca F) (hO : check1 n F = 0 → Ok n.toNat F) {ma : Option Addr} {mc : Nat} {xs : List Bool} (hm : RSl ρ 1 ma xs.length (xs.map encB)) (hlen : xs.length ≤ 9223372036854775807) :
    Con Try.prog ρ 18 #[.agg #[.int .i64 n, .slice ca F.length cc], .slice ma xs.length mc] [] (fun v H => v = .bool (rightB n F xs) ∧ H = []) := by
  refine con_intro Try.func18 Try.call18 rfl Try.ntmps18 rfl (L := [(0, _), (1, _)]) rfl fun w hh => ?_
  refine g_seq ?_
  refine g_region ?_
  refine g_eff (e_box rfl (by rfl)) rfl (fun _ _ => ?_)
  rintro ⟨b2, rfl, rfl⟩
  refine g_eff (e_box rfl (by rfl)) rfl (fun _ _ => ?_)
  rintro ⟨b3, rfl, rfl⟩
  refine g_pure (p_assign rfl) rfl ?_
  refine g_nil ?_
  refine g_qt ?_
  refine g_seq ?_
  refine g_seq ?_
  refine g_region ?_
  first | refine g_pure (p_loadO (by rfl) rfl (by first | (apply Has.own; (repeat' (first | exact Take.here | apply Take.there)); done) | exact Has.ro (by assumption)) (by rfl)) rfl ?_ | refine g_pure (p_loadN (by rfl) rfl (by first | (apply Has.own; (repeat' (first | exact Take.here | apply Take.there)); done) | exact Has.ro (by assumption)) (by first | rfl | assumption)) rfl ?_
  refine g_call (Hin := []) (Hr := ?hr6) (R := ?rr6) rfl rfl rfl ?hin6 ?hc6 ?hk6
  case hin6 => repeat' (first | exact Cover.nil | exact Take.here | apply Cover.cons | apply Take.there)
  case hc6 => intro ρ' hρ hR; exact check_ok n hF.vars ca cc F (hF.fm.mono hρ)
  rintro _ _ ⟨rfl, rfl⟩
  refine g_pure (p_neq rfl rfl) rfl ?_
  refine g_pure (p_move rfl) rfl ?_
  refine g_splitnd rfl rfl (fun c => ?_) (fun c => ?_)
  · refine g_no rfl rfl rfl rfl ?_
    refine g_no rfl rfl rfl rfl ?_
    refine g_no rfl rfl rfl rfl ?_
    refine g_no rfl rfl rfl rfl ?_
    refine g_no rfl rfl rfl rfl ?_
    first | refine g_pure (p_pickt rfl rfl) rfl ?_ | refine g_pure (p_pickf rfl rfl) rfl ?_
    refine g_nil ?_
    refine g_qt ?_
    refine g_ift rfl ?_
    refine g_seq ?_
    refine g_region ?_
    refine g_pure (p_assign rfl) rfl ?_
    refine g_nil ?_
    refine g_qt ?_
    refine g_ret ?_
    refine g_qt_ret ?_
    exact g_post (rs := [.tmp 4]) rfl (.tmp rfl .nil) ⟨by unfold rightB; rw [decide_eq_false c]; rfl, rfl⟩ .nil
  · have hO := hO c
    have hnn := check1_nonneg c
    refine g_yes rfl rfl ?_
    refine g_pure (p_load (by rfl) rfl (by first | (apply Has.own; (repeat' (first | exact Take.here | apply Take.there)); done) | exact Has.ro (by assumption)) (by first | rfl | assumption)) rfl ?_
    refine g_yes rfl rfl ?_
    refine g_pure (p_len (by rfl) rfl) rfl ?_
    refine g_yes rfl rfl ?_
    refine g_pure (p_fieldAddr rfl) rfl ?_
    refine g_yes rfl rfl ?_
    refine g_pure (p_load (by rfl) rfl (by first | (apply Has.own; (repeat' (first | exact Take.here | apply Take.there)); done) | exact Has.ro (by assumption)) (by first | rfl | assumption)) rfl ?_
    refine g_yes rfl rfl ?_
    refine g_pure (p_neq rfl rfl) rfl ?_
    first | refine g_pure (p_pickt rfl rfl) rfl ?_ | refine g_pure (p_pickf rfl rfl) rfl ?_
    refine g_nil ?_
    refine g_qt ?_
    refine g_ifnd rfl (fun e => ?_) (fun e => ?_)
    · refine g_seq ?_
      refine g_region ?_
      refine g_pure (p_assign rfl) rfl ?_
      refine g_nil ?_
      refine g_qt ?_
      refine g_ret ?_
      refine g_qt_ret ?_
      exact g_post (rs := [.tmp 4]) rfl (.tmp rfl .nil) ⟨by unfold rightB; rw [decide_eq_true c, decide_eq_false e]; rfl, rfl⟩ .nil
    · have hnx : n.toNat = xs.length := by omega
      rw [hnx] at hO
      have hvars := hO.vars
      refine g_skip ?_
      refine g_qt ?_
      refine g_seq ?_
      refine g_region ?_
      refine g_pure (p_makeFunc rfl rfl) rfl ?_
      refine g_eff (e_alloc (by rfl)) rfl (fun _ _ => ?_)
      rintro ⟨b5, rfl, rfl⟩
      first | refine g_eff0 (e_storeO rfl rfl (by rfl) (by rfl) (by rfl) (by repeat' (first | exact Take.here | apply Take.there)) (by rfl)) (fun _ _ => ?_) | refine g_eff0 (e_store1 (by rfl) rfl rfl rfl (by repeat' (first | exact Take.here | apply Take.there)) (by first | decide | (simp <;> omega) | omega)) (fun _ _ => ?_)
      rintro rfl
      refine g_nil ?_
      refine g_qt ?_
      refine g_seq ?_
      refine g_region ?_
      refine g_pure (p_fieldAddr rfl) rfl ?_
      refine g_pure (p_load (by rfl) rfl (by first | (apply Has.own; (repeat' (first | exact Take.here | apply Take.there)); done) | exact Has.ro (by assumption)) (by first | rfl | assumption)) rfl ?_
      refine g_pure (p_makeFunc rfl rfl) rfl ?_
      refine g_call (Hin := []) (Hr := ?hr7) (R := ?rr7) rfl rfl rfl ?hin7 ?hc7 ?hk7
      case hin7 => repeat' (first | exact Cover.nil | exact Take.here | apply Cover.cons | apply Take.there)
      case hc7 => intro ρ' hρ hR; exact anyC_ok ca cc F (hF.fm.mono hρ) _ #[.pointer (some ⟨b5, 0, none⟩)] (fun c => !c.any (mt xs)) (fun cl h1 ρ2 h2 ai ci hrow => right2_ok (h2 _ _ hR.1.blk) (h2 _ _ (Take.ro (A := Blk b3 _) (by repeat' (first | exact Take.here | apply Take.there)) hR).blk) (hm.mono (fun b o h3 => h2 b o (hρ b o h3))) hvars (hO.lits cl h1) hrow (hO.lens cl h1))
      rintro _ _ ⟨rfl, rfl⟩
      refine g_pure (p_not rfl) rfl ?_
      refine g_pure (p_assign rfl) rfl ?_
      refine g_nil ?_
      refine g_qt ?_
      refine g_ret ?_
      refine g_post (rs := [.tmp 4]) rfl (.tmp rfl .nil) ⟨?_, rfl⟩ .nil
      show Value.bool _ = Value.bool _
      congr 1
      unfold rightB
      rw [decide_eq_true c, decide_eq_true e, Bool.true_and, Bool.true_and]
      rw [List.any_eq_not_all_not, Bool.not_not]
      congr 1
      funext c
      rw [Bool.not_not]
end Go.Proofs.Ytbpgblbhikeglaa
