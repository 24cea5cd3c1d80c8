/- Chapter 35: what the functions of package aig do to memory. Conditions: none. -/
import Derived.Test.YtkebblmmgcgjkaaTy
import Derived.Test.YtkebblmmgcgjkaaA0
namespace Go.Proofs.Ytkebblmmgcgjkaa
set_option maxRecDepth 8000
set_option linter.unusedVariables false
set_option linter.unusedSimpArgs false
set_option linter.unusedSectionVars false
open Go Go.Z Go.Z.Aig

theorem eqGate (d : Nat) (a b c e : Int) (w : World) : (Op.equalIn (d + 2) 88 (.agg #[.int .i64 a, .int .i64 b]) (.agg #[.int .i64 c, .int .i64 e])).run Try.prog w = .ok (decide (a = c) && decide (b = e)) w := by
  have hf : Try.prog.fieldsOf 88 = match Try.t87.desc with | .struct fs => fs | _ => #[] := by kernel_rfl
  have hg : ∀ w, (isAgg 27).run Try.prog w = .ok false w := fun w => TyC.run_agg (ty27) w
  rw [run_equalIn_agg w (d + 1) _ _ _ (by kernel_rfl) (by kernel_rfl), hf]
  have e1 : ∀ i j : Int, (i == j) = decide (i = j) := fun i j => rfl
  have hu : Try.prog.underlying 27 = some (.int .i64) := Try.underlying27
  simp only [Try.t87, Op.eqFields, part, Sem.run_bind, hg, Result.andThen_ok]
  by_cases h1 : a = c <;> by_cases h2 : b = e <;> simp [run_equalIn_int, hu, hg, h1, h2]
theorem keyGate : KeyOk Try.prog 88 encK where
  check := fun w em a => by
    have hu : Try.prog.underlying 88 = some Try.t87.desc := Try.underlying88
    have hi : Try.prog.underlying 27 = some (.int .i64) := Try.underlying27
    have hg : ∀ w, (isAgg 27).run Try.prog w = .ok false w := fun w => TyC.run_agg (ty27) w
    have hl : ∀ n w, (Instr.checkKey em (n + 1) 27 (.int .i64 n)).run Try.prog w = .ok () w := fun n w => by
      simp [Instr.checkKey, underlying, hi]
    have hl2 : ∀ (m : Nat) (i : Int) w, (Instr.checkKey em (m + 1) 27 (.int .i64 i)).run Try.prog w = .ok () w := fun m i w => by
      simp [Instr.checkKey, underlying, hi]
    show (Instr.checkKey em (9998 + 1 + 1) 88 (encK a)).run Try.prog w = .ok () w
    unfold Instr.checkKey
    simp [underlying, hu, Try.t87, encK, part, hg, hl2]
  eq := fun w a b => by
    show (Op.equalIn (9998 + 2) _ _ _).run _ _ = _
    unfold encK
    rw [eqGate]
    congr 1
    by_cases h1 : a.1 = b.1 <;> by_cases h2 : a.2 = b.2 <;> simp [h1, h2, Prod.ext_iff]
  now := ⟨_, Try.underlying88, fun a b => rfl⟩

theorem not_ok {ρ : Nat → Obj → Prop} (a : Int) : Con Try.prog ρ 13 #[.int .i64 a] [] (fun v H => v = .int .i64 (bitV .xor .i64 a 1) ∧ H = []) := by
  refine con_intro Try.func13 Try.call13 rfl Try.ntmps13 rfl (L := [(0, _)]) rfl fun w hh => ?_
  refine g_seq ?_
  refine g_region ?_
  refine g_pure (p_assign rfl) rfl ?_
  refine g_nil ?_
  refine g_qt ?_
  refine g_seq ?_
  refine g_region ?_
  refine g_pure (p_move rfl) rfl ?_
  refine g_pure (p_xor rfl rfl) rfl ?_
  refine g_pure (p_assign rfl) rfl ?_
  refine g_nil ?_
  refine g_qt ?_
  refine g_ret ?_
  exact g_post (rs := [.tmp 2]) rfl (.tmp rfl .nil) ⟨rfl, rfl⟩ .nil

/-- the values of a graph in memory -/
def GrK (p : Nat) (S : St) : List Assn → Prop := fun H => ∃ av cv ai ci mb kn, H = [Blk p (.cells [.slice av S.length cv, .slice ai (ins 0 S).length ci, .map (some mb)].toArray 85 (0, 0)), OwnSl 88 2 av S.length cv (S.flatMap encG), OwnSl 27 1 ai (ins 0 S).length ci ((ins 0 S).map encI), MapB encK mb kn] ∧ WF S ∧ KN S kn
def Gr (p : Nat) (S : St) : Assn := Pk (GrK p S)

theorem idxf_ok {ρ : Nat → Obj → Prop} (al : Option Addr) (cl : Nat) (ls : List Int) (hl : RSl ρ 1 al ls.length (ls.map encI)) (hlen : ls.length ≤ 9223372036854775807) (F : Nat) (cap : Array Value) (pred : Int → Bool) (hF : ∀ l ∈ ls, ∀ ρ', (∀ b o, ρ b o → ρ' b o) → Con Try.prog ρ' F (#[.int .i64 l] ++ cap) [] (fun v H => v = .bool (pred l) ∧ H = [])) :
    Con Try.prog ρ 115 #[.slice al ls.length cl, .func (.func F) #[] cap] [] (fun v H => v = .int .i64 (match ls.findIdx? pred with | some i => (i : Int) | none => -1) ∧ H = []) := by
  obtain ⟨_, b, off, cs, T, fz, hr⟩ := hl
  refine con_intro Try.func115 Try.call115 rfl Try.ntmps115 rfl (L := [(0, _), (1, _)]) rfl fun w hh => ?_
  refine g_seq ?_
  refine g_region ?_
  refine g_pure (p_assign rfl) rfl ?_
  refine g_nil ?_
  refine g_qt ?_
  refine g_seq ?_
  refine g_seq ?_
  refine g_region ?_
  refine g_pure (p_move rfl) rfl ?_
  refine g_pure (p_len (by rfl) rfl) rfl ?_
  refine g_pure (p_move rfl) rfl ?_
  refine g_nil ?_
  refine g_qt ?_
  refine g_block ?_
  refine g_loop (fun k : Nat => [(0, .slice al ls.length cl), (1, .func (.func F) #[] cap), (7, .int .i64 ls.length), (8, .int .i64 k)]) (fun _ => []) (fun k => k ≤ ls.length ∧ ∀ l ∈ ls.take k, pred l = false) (fun k => ls.length - k) 0 ⟨Nat.zero_le _, by simp⟩ (by (repeat (first | exact trivial | refine ⟨by rfl, ?_⟩)); done) .nil fun k ⟨hk, hno⟩ => ?_
  refine g_seq ?_
  refine g_region ?_
  refine g_pure (p_lss rfl rfl) rfl ?_
  refine g_nil ?_
  refine g_qt ?_
  refine g_seq ?_
  refine g_ifd rfl (fun h1 => ?_) (fun h1 => ?_)
  · have hk' : k < ls.length := by omega
    have hx : (ls.map encI)[k]? = some (.int .i64 ls[k]) := by simp [encI, List.getElem?_eq_getElem hk']
    refine g_skip ?_
    refine g_qt ?_
    refine g_seq ?_
    refine g_block ?_
    refine g_seq ?_
    refine g_region ?_
    refine g_pure (p_move rfl) rfl ?_
    refine g_pure (p_assign rfl) rfl ?_
    refine g_nil ?_
    refine g_qt ?_
    refine g_seq ?_
    refine g_region ?_
    refine g_pure (p_move rfl) rfl ?_
    refine g_pure (p_move rfl) rfl ?_
    refine g_pure (p_move rfl) rfl ?_
    refine g_pure (p_indexAddr rfl rfl (by omega) (fun _ => (hr (by omega)).1)) rfl ?_
    refine g_pure (p_load (v := .int .i64 ls[k]) (by rfl) rfl (Has.ro (hr (by omega)).2.1) (by simpa using (hr (by omega)).2.2 k _ hx)) rfl ?_
    refine g_call (Hin := []) (Hr := ?hr1) (R := ?rr1) rfl rfl rfl ?hin1 ?hc1 ?hk1
    case hin1 => repeat' (first | exact Cover.nil | exact Take.here | apply Cover.cons | apply Take.there)
    case hc1 => intro ρ' hρ hR; exact hF _ (List.getElem_mem hk') ρ' hρ
    rintro _ _ ⟨rfl, rfl⟩
    refine g_nil ?_
    refine g_qt ?_
    refine g_if rfl (fun h2 => ?_) (fun h2 => ?_)
    · refine g_seq ?_
      refine g_region ?_
      refine g_pure (p_move rfl) rfl ?_
      refine g_pure (p_assign rfl) rfl ?_
      refine g_nil ?_
      refine g_qt ?_
      refine g_ret ?_
      refine g_qb_ret ?_
      refine g_qt_ret ?_
      refine g_qn_ret ?_
      refine g_qb_ret ?_
      refine g_qt_ret ?_
      refine g_post (rs := [.tmp 4]) rfl (.tmp rfl .nil) ⟨?_, rfl⟩ .nil
      have e : ls.findIdx? pred = some k := by
        rw [List.findIdx?_eq_some_iff_getElem]
        refine ⟨hk', h2, fun j hj => ?_⟩
        have := hno ls[j] (by rw [List.mem_take_iff_getElem]; exact ⟨j, by omega, rfl⟩)
        simp [this]
      rw [e]; rfl
    · refine g_skip ?_
      refine g_qb ?_
      refine g_qt ?_
      refine g_region ?_
      first | refine g_pure (p_addi rfl rfl (by omega)) rfl ?_ | refine g_pure (p_add rfl rfl) rfl ?_
      refine g_pure (p_move rfl) rfl ?_
      refine g_nil ?_
      refine g_qn ?_
      refine g_next (k + 1) (by (repeat (first | exact trivial | refine ⟨by rfl, ?_⟩)); done) .nil ⟨by omega, fun l hl => ?_⟩ (by omega)
      have h3 : l ∈ ls.take k ++ [ls[k]] := by rw [List.take_append_getElem]; exact hl
      rcases List.mem_append.1 h3 with h4 | h4
      · exact hno l h4
      · rw [List.mem_singleton.1 h4]; exact h2
  · refine g_exit ?_
    refine g_qt_exit ?_
    refine g_qn_exit ?_
    refine g_qb_exit ?_
    refine g_qt ?_
    refine g_seq ?_
    refine g_region ?_
    refine g_pure (p_assign rfl) rfl ?_
    refine g_nil ?_
    refine g_qt ?_
    refine g_ret ?_
    refine g_post (rs := [.tmp 4]) rfl (.tmp rfl .nil) ⟨?_, rfl⟩ .nil
    have e : ls.findIdx? pred = none := by
      rw [List.findIdx?_eq_none_iff]
      intro l hl
      exact hno l (by rw [List.take_of_length_le (by omega)]; exact hl)
    rw [e]; rfl

theorem contains_ok {ρ : Nat → Obj → Prop} (al : Option Addr) (cl : Nat) (ls : List Int) (hl : RSl ρ 1 al ls.length (ls.map encI)) (hlen : ls.length ≤ 9223372036854775807) (F : Nat) (cap : Array Value) (pred : Int → Bool) (hF : ∀ l ∈ ls, ∀ ρ', (∀ b o, ρ b o → ρ' b o) → Con Try.prog ρ' F (#[.int .i64 l] ++ cap) [] (fun v H => v = .bool (pred l) ∧ H = [])) :
    Con Try.prog ρ 81 #[.slice al ls.length cl, .func (.func F) #[] cap] [] (fun v H => v = .bool (ls.any pred) ∧ H = []) := by
  refine con_intro Try.func81 Try.call81 rfl Try.ntmps81 rfl (L := [(0, _), (1, _)]) rfl fun w hh => ?_
  refine g_seq ?_
  refine g_region ?_
  refine g_pure (p_assign rfl) rfl ?_
  refine g_nil ?_
  refine g_qt ?_
  refine g_seq ?_
  refine g_region ?_
  refine g_pure (p_move rfl) rfl ?_
  refine g_pure (p_move rfl) rfl ?_
  refine g_call (Hin := []) (Hr := ?hr2) (R := ?rr2) rfl rfl rfl ?hin2 ?hc2 ?hk2
  case hin2 => repeat' (first | exact Cover.nil | exact Take.here | apply Cover.cons | apply Take.there)
  case hc2 => intro ρ' hρ hR; exact idxf_ok al cl ls (hl.mono hρ) hlen F cap pred (fun l h1 ρ2 h2 => hF l h1 ρ2 (fun b o h3 => h2 b o (hρ b o h3)))
  rintro _ _ ⟨rfl, rfl⟩
  refine g_pure (p_geq rfl rfl) rfl ?_
  refine g_pure (p_assign rfl) rfl ?_
  refine g_nil ?_
  refine g_qt ?_
  refine g_ret ?_
  refine g_post (rs := [.tmp 4]) rfl (.tmp rfl .nil) ⟨?_, rfl⟩ .nil
  show Value.bool _ = Value.bool _
  congr 1
  cases h : ls.findIdx? pred with
  | none =>
    rw [List.findIdx?_eq_none_iff] at h
    have : ls.any pred = false := by rw [List.any_eq_false]; intro x hx; simp [h x hx]
    rw [this]; rfl
  | some i =>
    rw [List.findIdx?_eq_some_iff_getElem] at h
    obtain ⟨h1, h2, _⟩ := h
    have : ls.any pred = true := List.any_eq_true.2 ⟨_, List.getElem_mem h1, h2⟩
    rw [this]; simp

theorem gr_ro {ρ : Nat → Obj → Prop} {p : Nat} {S : St} (h : Ro ρ (Gr p S)) : ∃ av cv ai ci mb kn, ρ p (.cells [.slice av S.length cv, .slice ai (ins 0 S).length ci, .map (some mb)].toArray 85 (0, 0)) ∧ RSl ρ 2 av S.length (S.flatMap encG) ∧ RSl ρ 1 ai (ins 0 S).length ((ins 0 S).map encI) ∧ Ro ρ (MapB encK mb kn) ∧ WF S ∧ KN S kn := by
  obtain ⟨H1, ⟨av, cv, ai, ci, mb, kn, rfl, hw, hk⟩, r⟩ := h.unpack
  obtain ⟨r1, r2, r3, r4, _⟩ := r
  exact ⟨av, cv, ai, ci, mb, kn, r1.blk, .of_own r2, .of_own r3, r4, hw, hk⟩

theorem ask1_ok {ρ : Nat → Obj → Prop} (p b2 : Nat) (S : St) (a : Int) (ha : -9223372036854775808 ≤ a ∧ a ≤ 9223372036854775807) (hg : Ro ρ (Gr p S)) (hb : ρ b2 (.cells [.pointer (some ⟨p, 0, none⟩)].toArray 24 (0, 0))) :
    Con Try.prog ρ 82 #[.int .i64 a, .pointer (some ⟨b2, 0, none⟩)] [] (fun v H => v = .bool (!hasB S a) ∧ H = []) := by
  obtain ⟨av, cv, ai, ci, mb, kn, hp, hv, hi, hm, hw, hk⟩ := gr_ro hg
  have hlim := hw.lim
  refine con_intro Try.func82 Try.call82 rfl Try.ntmps82 rfl (L := [(0, _), (1, _)]) rfl fun w hh => ?_
  refine g_seq ?_
  refine g_region ?_
  refine g_pure (p_assign rfl) rfl ?_
  refine g_nil ?_
  refine g_qt ?_
  refine g_seq ?_
  refine g_region ?_
  refine g_pure (p_move rfl) rfl ?_
  refine g_pure (p_lss rfl rfl) rfl ?_
  refine g_pure (p_move rfl) rfl ?_
  refine g_splitd rfl rfl (fun h1 => ?_) (fun h1 => ?_)
  · refine g_no rfl rfl rfl rfl ?_
    refine g_no rfl rfl rfl rfl ?_
    refine g_no rfl rfl rfl rfl ?_
    refine g_no rfl rfl rfl rfl ?_
    refine g_no rfl rfl rfl rfl ?_
    refine g_no rfl rfl rfl rfl ?_
    refine g_no rfl rfl rfl rfl ?_
    refine g_no rfl rfl rfl rfl ?_
    first | refine g_pure (p_pickt rfl rfl) rfl ?_ | refine g_pure (p_pickf rfl rfl) rfl ?_
    refine g_pure (p_assign rfl) rfl ?_
    refine g_nil ?_
    refine g_qt ?_
    refine g_ret ?_
    refine g_post (rs := [.tmp 3]) rfl (.tmp rfl .nil) ⟨?_, rfl⟩ .nil
    show Value.bool _ = Value.bool _
    congr 1
    unfold hasB; simp; omega
  · refine g_yes rfl rfl ?_
    refine g_pure (p_move rfl) rfl ?_
    refine g_yes rfl rfl ?_
    first | refine g_pure (p_quon rfl rfl (by omega) (by omega)) rfl ?_ | refine g_pure (p_quoi rfl rfl (by omega) (by omega)) rfl ?_ | refine g_pure (p_quo rfl rfl (by omega)) rfl ?_
    refine g_yes rfl rfl ?_
    refine g_pure (p_load (by rfl) rfl (by first | (apply Has.own; (repeat' (first | exact Take.here | apply Take.there)); done) | exact Has.ro (by assumption)) (by first | rfl | assumption)) rfl ?_
    refine g_yes rfl rfl ?_
    refine g_pure (p_nilCheck rfl) rfl ?_
    refine g_yes rfl rfl ?_
    refine g_pure (p_fieldAddr rfl) rfl ?_
    refine g_yes rfl rfl ?_
    refine g_pure (p_load (by rfl) rfl (by first | (apply Has.own; (repeat' (first | exact Take.here | apply Take.there)); done) | exact Has.ro (by assumption)) (by first | rfl | assumption)) rfl ?_
    refine g_yes rfl rfl ?_
    refine g_pure (p_len (by rfl) rfl) rfl ?_
    refine g_yes rfl rfl ?_
    refine g_pure (p_geq rfl rfl) rfl ?_
    first | refine g_pure (p_pickt rfl rfl) rfl ?_ | refine g_pure (p_pickf rfl rfl) rfl ?_
    refine g_pure (p_assign rfl) rfl ?_
    refine g_nil ?_
    refine g_qt ?_
    refine g_ret ?_
    refine g_post (rs := [.tmp 3]) rfl (.tmp rfl .nil) ⟨?_, rfl⟩ .nil
    show Value.bool _ = Value.bool _
    congr 1
    unfold hasB
    by_cases h2 : (S.length : Int) ≤ a / 2 <;> simp [h2] <;> omega

theorem ask_ok {ρ : Nat → Obj → Prop} (p : Nat) (S : St) (al : Option Addr) (cl : Nat) (ls : List Int) (hl : RSl ρ 1 al ls.length (ls.map encI)) (hlen : ls.length ≤ 9223372036854775807) (hr : ∀ l ∈ ls, -9223372036854775808 ≤ l ∧ l ≤ 9223372036854775807) (hg : Ro ρ (Gr p S)) :
    Con Try.prog ρ 43 #[.pointer (some ⟨p, 0, none⟩), .slice al ls.length cl] [] (fun v H => v = .int .i64 (if ls.all (hasB S) then 0 else 14) ∧ H = []) := by
  refine con_intro Try.func43 Try.call43 rfl Try.ntmps43 rfl (L := [(0, _), (1, _)]) rfl fun w hh => ?_
  refine g_seq ?_
  refine g_region ?_
  refine g_eff (e_box rfl (by rfl)) rfl (fun _ _ => ?_)
  rintro ⟨b2, rfl, rfl⟩
  refine g_pure (p_assign rfl) rfl ?_
  refine g_nil ?_
  refine g_qt ?_
  refine g_seq ?_
  refine g_seq ?_
  refine g_region ?_
  refine g_pure (p_load (by rfl) rfl (by first | (apply Has.own; (repeat' (first | exact Take.here | apply Take.there)); done) | exact Has.ro (by assumption)) (by first | rfl | assumption)) rfl ?_
  refine g_pure (p_eqnil (by rfl) rfl rfl) rfl ?_
  refine g_nil ?_
  refine g_qt ?_
  refine g_iff rfl ?_
  refine g_skip ?_
  refine g_qt ?_
  refine g_seq ?_
  refine g_seq ?_
  refine g_region ?_
  refine g_pure (p_move rfl) rfl ?_
  refine g_pure (p_makeFunc rfl rfl) rfl ?_
  refine g_call (Hin := []) (Hr := ?hr3) (R := ?rr3) rfl rfl rfl ?hin3 ?hc3 ?hk3
  case hin3 => repeat' (first | exact Cover.nil | exact Take.here | apply Cover.cons | apply Take.there)
  case hc3 => intro ρ' hρ hR; exact contains_ok al cl ls (hl.mono hρ) hlen 82 #[.pointer (some ⟨b2, 0, none⟩)] (fun a => !hasB S a) (fun l h1 ρ2 h2 => ask1_ok p b2 S l (hr l h1) (hg.mono fun b o h => h2 _ _ (hρ _ _ h)) (h2 _ _ hR.1.blk))
  rintro _ _ ⟨rfl, rfl⟩
  refine g_nil ?_
  refine g_qt ?_
  refine g_if rfl (fun h1 => ?_) (fun h1 => ?_)
  · refine g_seq ?_
    refine g_region ?_
    refine g_pure (p_assign rfl) rfl ?_
    refine g_nil ?_
    refine g_qt ?_
    refine g_ret ?_
    refine g_qt_ret ?_
    refine g_post (rs := [.tmp 4]) rfl (.tmp rfl .nil) ⟨?_, rfl⟩ .nil
    have : ls.all (hasB S) = false := by
      rw [List.any_eq_true] at h1
      rw [List.all_eq_false]
      obtain ⟨x, hx, h2⟩ := h1
      exact ⟨x, hx, by simpa using h2⟩
    rw [this]; rfl
  · refine g_skip ?_
    refine g_qt ?_
    refine g_seq ?_
    refine g_region ?_
    refine g_pure (p_assign rfl) rfl ?_
    refine g_nil ?_
    refine g_qt ?_
    refine g_ret ?_
    refine g_post (rs := [.tmp 4]) rfl (.tmp rfl .nil) ⟨?_, rfl⟩ .nil
    have : ls.all (hasB S) = true := by
      rw [List.any_eq_false] at h1
      rw [List.all_eq_true]
      intro x hx
      simpa using h1 x hx
    rw [this]; rfl

theorem ask_yes {ρ : Nat → Obj → Prop} (p : Nat) (S : St) (al : Option Addr) (cl : Nat) (ls : List Int) (hl : RSl ρ 1 al ls.length (ls.map encI)) (hlen : ls.length ≤ 9223372036854775807) (hr : ∀ l ∈ ls, -9223372036854775808 ≤ l ∧ l ≤ 9223372036854775807) (hg : Ro ρ (Gr p S)) (hy : ls.all (hasB S) = true) :
    Con Try.prog ρ 43 #[.pointer (some ⟨p, 0, none⟩), .slice al ls.length cl] [] (fun v H => v = .int .i64 0 ∧ H = []) :=
  (ask_ok p S al cl ls hl hlen hr hg).mono fun v H h => by rw [hy] at h; exact h
theorem ask_no {ρ : Nat → Obj → Prop} (p : Nat) (S : St) (al : Option Addr) (cl : Nat) (ls : List Int) (hl : RSl ρ 1 al ls.length (ls.map encI)) (hlen : ls.length ≤ 9223372036854775807) (hr : ∀ l ∈ ls, -9223372036854775808 ≤ l ∧ l ≤ 9223372036854775807) (hg : Ro ρ (Gr p S)) (hy : ls.all (hasB S) = false) :
    Con Try.prog ρ 43 #[.pointer (some ⟨p, 0, none⟩), .slice al ls.length cl] [] (fun v H => v = .int .i64 14 ∧ H = []) :=
  (ask_ok p S al cl ls hl hlen hr hg).mono fun v H h => by rw [hy] at h; exact h

theorem add_ok {ρ : Nat → Obj → Prop} (p : Nat) (av : Option Addr) (m cv : Nat) (X Y : Value) (rows : List Value) (a b : Int) (hm : m ≤ 131072) :
    Con Try.prog ρ 42 #[.pointer (some ⟨p, 0, none⟩), .agg #[.int .i64 a, .int .i64 b]] [Blk p (.cells [.slice av m cv, X, Y].toArray 85 (0, 0)), OwnSl 88 2 av m cv rows]
      (fun v H => (131072 ≤ m ∧ v = .tuple #[.int .i64 0, .int .i64 3] ∧ H = [Blk p (.cells [.slice av m cv, X, Y].toArray 85 (0, 0)), OwnSl 88 2 av m cv rows]) ∨
        (m < 131072 ∧ ∃ av' cv', v = .tuple #[.int .i64 (2 * (m : Int)), .int .i64 0] ∧ H = [Blk p (.cells [.slice av' (m + 1) cv', X, Y].toArray 85 (0, 0)), OwnSl 88 2 av' (m + 1) cv' (rows ++ [.int .i64 a, .int .i64 b])])) := by
  refine con_intro Try.func42 Try.call42 rfl Try.ntmps42 rfl (L := [(0, _), (1, _)]) rfl fun w hh => ?_
  refine g_seq ?_
  refine g_region ?_
  refine g_eff (e_box rfl (by rfl)) rfl (fun _ _ => ?_)
  rintro ⟨b3, rfl, rfl⟩
  refine g_pure (p_assign rfl) rfl ?_
  refine g_pure (p_assign rfl) rfl ?_
  refine g_nil ?_
  refine g_qt ?_
  refine g_seq ?_
  refine g_seq ?_
  refine g_region ?_
  refine g_pure (p_move rfl) rfl ?_
  refine g_pure (p_nilCheck rfl) rfl ?_
  refine g_pure (p_fieldAddr rfl) rfl ?_
  refine g_pure (p_load (by rfl) rfl (by first | (apply Has.own; (repeat' (first | exact Take.here | apply Take.there)); done) | exact Has.ro (by assumption)) (by first | rfl | assumption)) rfl ?_
  refine g_pure (p_len (by rfl) rfl) rfl ?_
  refine g_pure (p_geq rfl rfl) rfl ?_
  refine g_nil ?_
  refine g_qt ?_
  refine g_ifd rfl (fun h1 => ?_) (fun h1 => ?_)
  · refine g_seq ?_
    refine g_region ?_
    refine g_pure (p_assign rfl) rfl ?_
    refine g_pure (p_assign rfl) rfl ?_
    refine g_nil ?_
    refine g_qt ?_
    refine g_ret ?_
    refine g_qt_ret ?_
    exact g_post (rs := [.tmp 4, .tmp 5]) rfl (.tmp rfl (.tmp rfl .nil)) (.inl ⟨by omega, rfl, rfl⟩) (by repeat' (first | exact Cover.nil | exact Take.here | apply Cover.cons | apply Take.there))
  · refine g_skip ?_
    refine g_qt ?_
    refine g_seq ?_
    refine m_begin0 (.fl 0 0 (.fl 1 0 (.fl 2 0 (.fl 3 0 (.fl 4 1 (.fl 5 1 (.ef 6 (.ef 7 (.fl 8 0 (.fl 9 0 (.ef 10 .done))))))))))) (by kernel_rfl) (by kernel_rfl) ?_
    refine m_float0 rfl (fun _ _ => p_move rfl) rfl ?_
    refine m_float0 rfl (fun _ _ => p_move rfl) rfl ?_
    refine m_float0 rfl (fun _ _ => p_nilCheck rfl) rfl ?_
    refine m_float0 rfl (fun _ _ => p_fieldAddr rfl) rfl ?_
    refine m_float rfl (p_load (by rfl) rfl (by first | (apply Has.own; (repeat' (first | exact Take.here | apply Take.there)); done) | exact Has.ro (by assumption)) (by first | rfl | assumption)) rfl ?_
    first | refine m_float rfl (p_loadO (by rfl) rfl (by first | (apply Has.own; (repeat' (first | exact Take.here | apply Take.there)); done) | exact Has.ro (by assumption)) (by rfl)) rfl ?_ | refine m_float rfl (p_loadN (by rfl) rfl (by first | (apply Has.own; (repeat' (first | exact Take.here | apply Take.there)); done) | exact Has.ro (by assumption)) (by first | rfl | assumption)) rfl ?_
    refine m_eff rfl (e_bs (xs := [.tmp 17]) rfl rfl rfl (by rfl) (by rfl) rfl (by rfl)) rfl (fun _ _ => ?_)
    rintro ⟨b18, rfl, rfl⟩
    refine ⟨.some (by repeat' (first | exact Cover.nil | exact Take.here | apply Cover.cons | apply Take.there)), ?_⟩
    refine m_eff rfl (e_appendO (by rfl) (by rfl) rfl rfl (by first | (apply Has.own; (repeat' (first | exact Take.here | apply Take.there)); done) | exact Has.ro (by assumption)) (by rfl) (by rfl) (by repeat' (first | exact Take.here | apply Take.there)) (by omega) (by first | omega | (dsimp only; omega) | (simp <;> omega)) (by omega)) rfl (fun _ _ => ?_)
    rintro ⟨a19, c19, rfl, rfl⟩
    refine ⟨.none (by kernel_rfl), ?_⟩
    refine m_float0 rfl (fun _ _ => p_nilCheck rfl) rfl ?_
    refine m_float0 rfl (fun _ _ => p_fieldAddr rfl) rfl ?_
    first | refine m_eff0 rfl (e_storeO rfl rfl (by rfl) (by rfl) (by rfl) (by repeat' (first | exact Take.here | apply Take.there)) (by rfl)) (fun _ _ => ?_) | refine m_eff0 rfl (e_store1 (by rfl) rfl rfl rfl (by repeat' (first | exact Take.here | apply Take.there)) (by first | decide | (simp <;> omega) | omega)) (fun _ _ => ?_)
    rintro rfl
    refine ⟨.none (by kernel_rfl), ?_⟩
    refine m_nil ?_
    refine g_qt ?_
    refine g_seq ?_
    refine g_region ?_
    refine g_pure (p_move rfl) rfl ?_
    refine g_pure (p_nilCheck rfl) rfl ?_
    refine g_pure (p_fieldAddr rfl) rfl ?_
    refine g_pure (p_load (by rfl) rfl (by first | (apply Has.own; (repeat' (first | exact Take.here | apply Take.there)); done) | exact Has.ro (by assumption)) (by first | rfl | assumption)) rfl ?_
    refine g_pure (p_len (by rfl) rfl) rfl ?_
    first | refine g_pure (p_subi rfl rfl (by omega)) rfl ?_ | refine g_pure (p_sub rfl rfl) rfl ?_
    first | refine g_pure (p_muli rfl rfl (by omega)) rfl ?_ | refine g_pure (p_mul rfl rfl) rfl ?_
    refine g_pure (p_assign rfl) rfl ?_
    refine g_pure (p_assign rfl) rfl ?_
    refine g_nil ?_
    refine g_qt ?_
    refine g_ret ?_
    exact g_post (rs := [.tmp 4, .tmp 5]) rfl (.tmp rfl (.tmp rfl .nil)) (.inr ⟨by omega, a19, c19, by simp [tupled], rfl⟩) (by repeat' (first | exact Cover.nil | exact Take.here | apply Cover.cons | apply Take.there))

theorem nt_xor (a : Int) (h : -9223372036854775808 ≤ a ∧ a ≤ 9223372036854775807) : bitV .xor .i64 a 1 = nt a := xor1_i64 a h

theorem rtup (a b : Int) : Value.tuple #[Value.int .i64 a, Value.int .i64 b] = tupled [Value.int .i64 a, Value.int .i64 b] := rfl

theorem gr_close {M : Mx} {n : Nat} {L : Fr} {H Hr : List Assn} {T : Act → World → Prop} {p : Nat} {S : St} {av ai : Option Addr} {cv ci mb k1 k2 : Nat} {kn : List ((Int × Int) × Value)} {rows : List Value} {is : List Value} (hw : WF S) (hk : KN S kn)
    (hc : Cover H [Blk p (.cells [.slice av k1 cv, .slice ai k2 ci, .map (some mb)].toArray 85 (0, 0)), OwnSl 88 2 av k1 cv rows, OwnSl 27 1 ai k2 ci is, MapB encK mb kn] Hr)
    (h1 : k1 = S.length) (h2 : k2 = (ins 0 S).length) (h3 : rows = S.flatMap encG) (h4 : is = (ins 0 S).map encI) (h : G M n L (Gr p S :: Hr) T) : G M n L H T := by
  subst h1 h2 h3 h4
  exact g_close (K := GrK p S) ⟨av, cv, ai, ci, mb, kn, rfl, hw, hk⟩ hc h

theorem gr_wf {M : Mx} {n : Nat} {L : Fr} {H H' : List Assn} {T : Act → World → Prop} {p : Nat} {S : St} (tk : Take H (Gr p S) H') (h : WF S → G M n L H T) : G M n L H T := by
  intro a w ha hm
  obtain ⟨hh, s, su, d, r⟩ := hm.own
  obtain ⟨h1, h2, ⟨H1, ⟨av, cv, ai, ci, mb, kn, e, hw, hk⟩, s1⟩, s2, dd, rfl⟩ := tk.sat s
  exact h hw a w ha hm

theorem and0_ok {ρ : Nat → Obj → Prop} (p : Nat) (S : St) (a b : Int) (ha : has S a) (hb : has S b) :
    Con Try.prog ρ 44 #[.pointer (some ⟨p, 0, none⟩), .int .i64 a, .int .i64 b] [Gr p S] (fun v H => v = .tuple #[.int .i64 (and0 S a b).1, .int .i64 (and0 S a b).2.1] ∧ H = [Gr p (and0 S a b).2.2]) := by
  obtain ⟨ha0, ha1⟩ := ha
  obtain ⟨hb0, hb1⟩ := hb
  refine con_intro Try.func44 Try.call44 rfl Try.ntmps44 rfl (L := [(0, _), (1, _), (2, _)]) rfl fun w hh => ?_
  refine g_open .here ?_
  rintro _ ⟨av, cv, ai, ci, mb, kn, rfl, hw, hk⟩
  have hlim := hw.lim
  have hnx := nt_xor (max a b) (by omega)
  have hlook := hk.look (min a b) (max a b)
  refine g_seq ?_
  refine g_region ?_
  refine g_pure (p_assign rfl) rfl ?_
  refine g_pure (p_assign rfl) rfl ?_
  refine g_nil ?_
  refine g_qt ?_
  refine g_seq ?_
  refine g_region ?_
  refine g_pure (p_move rfl) rfl ?_
  refine g_pure (p_move rfl) rfl ?_
  refine g_pure (p_min rfl rfl) rfl ?_
  refine g_pure (p_move rfl) rfl ?_
  refine g_pure (p_move rfl) rfl ?_
  refine g_pure (p_max rfl rfl) rfl ?_
  refine g_pure (p_build (by rfl) rfl (by rfl)) rfl ?_
  refine g_eff (e_alloc (by rfl)) rfl (fun _ _ => ?_)
  rintro ⟨b8, rfl, rfl⟩
  first | refine g_eff0 (e_storeO rfl rfl (by rfl) (by rfl) (by rfl) (by repeat' (first | exact Take.here | apply Take.there)) (by rfl)) (fun _ _ => ?_) | refine g_eff0 (e_storeN rfl rfl (by rfl) (by rfl) (by rfl) (by repeat' (first | exact Take.here | apply Take.there)) (by simp)) (fun _ _ => ?_)
  rintro rfl
  refine g_nil ?_
  refine g_qt ?_
  refine g_block ?_
  refine g_seq ?_
  refine m_begin0 (.fl 0 0 (.fl 1 1 (.fl 2 0 (.fl 3 0 (.fl 4 0 (.fl 5 1 (.fl 6 0 (.fl 7 1 (.ef 8 (.fl 9 0 (.fl 10 0 (.fl 11 0 .done)))))))))))) (by kernel_rfl) (by kernel_rfl) ?_
  refine m_float0 rfl (fun _ _ => p_fieldAddr rfl) rfl ?_
  refine m_float rfl (p_load (by rfl) rfl (by first | (apply Has.own; (repeat' (first | exact Take.here | apply Take.there)); done) | exact Has.ro (by assumption)) (by first | rfl | assumption)) rfl ?_
  refine m_float0 rfl (fun _ _ => p_eql rfl rfl) rfl ?_
  refine m_float0 rfl (fun _ _ => p_move rfl) rfl ?_
  refine m_splitd 3 rfl rfl (fun h1 => ?_) (fun h1 => ?_)
  · refine m_no0 rfl rfl rfl rfl rfl ?_
    refine m_no rfl rfl rfl rfl rfl ?_
    refine m_no0 rfl rfl rfl rfl rfl ?_
    refine m_no rfl rfl rfl rfl rfl ?_
    refine m_noe rfl rfl rfl rfl rfl (.some (by repeat' (first | exact Cover.nil | exact Take.here | apply Cover.cons | apply Take.there))) ?_
    refine m_no0 rfl rfl rfl rfl rfl ?_
    first | refine m_float0 rfl (fun _ _ => p_pickt rfl rfl) rfl ?_ | refine m_float0 rfl (fun _ _ => p_pickf rfl rfl) rfl ?_
    refine m_float0 rfl (fun _ _ => p_assign rfl) rfl ?_
    refine m_nil ?_
    refine g_qt ?_
    refine g_ift rfl ?_
    refine g_seq ?_
    refine g_region ?_
    refine g_pure (p_assign rfl) rfl ?_
    refine g_pure (p_assign rfl) rfl ?_
    refine g_nil ?_
    refine g_qt ?_
    refine g_ret ?_
    refine g_qb_ret ?_
    refine gr_close hw hk (by repeat' (first | exact Cover.nil | exact Take.here | apply Cover.cons | apply Take.there)) rfl rfl rfl rfl ?_
    have e : and0 S a b = (0, 0, S) := if_pos (.inl h1)
    exact g_post (rs := [.tmp 6, .tmp 7]) rfl (.tmp rfl (.tmp rfl .nil)) ⟨by rw [e]; rfl, by rw [e]⟩ (by repeat' (first | exact Cover.nil | exact Take.here | apply Cover.cons | apply Take.there))
  · refine m_yes0 rfl rfl rfl (fun _ _ => p_fieldAddr rfl) rfl ?_
    refine m_yes rfl rfl rfl (p_load (by rfl) rfl (by first | (apply Has.own; (repeat' (first | exact Take.here | apply Take.there)); done) | exact Has.ro (by assumption)) (by first | rfl | assumption)) rfl ?_
    refine m_yes0 rfl rfl rfl (fun _ _ => p_fieldAddr rfl) rfl ?_
    refine m_yes rfl rfl rfl (p_load (by rfl) rfl (by first | (apply Has.own; (repeat' (first | exact Take.here | apply Take.there)); done) | exact Has.ro (by assumption)) (by first | rfl | assumption)) rfl ?_
    refine m_call (Hin := []) (Hr := ?hr4) (R := ?rr4) rfl (wantedY rfl rfl) rfl rfl rfl ?hin4 ?hc4 ?hk4
    case hin4 => repeat' (first | exact Cover.nil | exact Take.here | apply Cover.cons | apply Take.there)
    case hc4 => intro ρ' hρ hR; exact not_ok (max a b)
    rintro _ _ ⟨rfl, rfl⟩
    refine ⟨.some (by repeat' (first | exact Cover.nil | exact Take.here | apply Cover.cons | apply Take.there)), ?_⟩
    refine m_yes0 rfl rfl rfl (fun _ _ => p_eql rfl rfl) rfl ?_
    first | refine m_float0 rfl (fun _ _ => p_pickt rfl rfl) rfl ?_ | refine m_float0 rfl (fun _ _ => p_pickf rfl rfl) rfl ?_
    refine m_float0 rfl (fun _ _ => p_assign rfl) rfl ?_
    refine m_nil ?_
    refine g_qt ?_
    refine g_ifd rfl (fun h2 => ?_) (fun h2 => ?_)
    · refine g_seq ?_
      refine g_region ?_
      refine g_pure (p_assign rfl) rfl ?_
      refine g_pure (p_assign rfl) rfl ?_
      refine g_nil ?_
      refine g_qt ?_
      refine g_ret ?_
      refine g_qb_ret ?_
      refine gr_close hw hk (by repeat' (first | exact Cover.nil | exact Take.here | apply Cover.cons | apply Take.there)) rfl rfl rfl rfl ?_
      have e : and0 S a b = (0, 0, S) := if_pos (.inr (by rw [← hnx]; exact h2))
      exact g_post (rs := [.tmp 6, .tmp 7]) rfl (.tmp rfl (.tmp rfl .nil)) ⟨by rw [e]; rfl, by rw [e]⟩ (by repeat' (first | exact Cover.nil | exact Take.here | apply Cover.cons | apply Take.there))
    · have c1 : ¬ (min a b = 0 ∨ min a b = nt (max a b)) := by rw [← hnx]; rintro (h | h); exact h1 h; exact h2 h
      refine g_seq ?_
      refine g_region ?_
      refine g_pure (p_fieldAddr rfl) rfl ?_
      refine g_pure (p_load (by rfl) rfl (by first | (apply Has.own; (repeat' (first | exact Take.here | apply Take.there)); done) | exact Has.ro (by assumption)) (by first | rfl | assumption)) rfl ?_
      refine g_pure (p_eql rfl rfl) rfl ?_
      refine g_pure (p_move rfl) rfl ?_
      refine g_splitd rfl rfl (fun h3 => ?_) (fun h3 => ?_)
      · refine g_no rfl rfl rfl rfl ?_
        refine g_no rfl rfl rfl rfl ?_
        refine g_no rfl rfl rfl rfl ?_
        refine g_no rfl rfl rfl rfl ?_
        refine g_no rfl rfl rfl rfl ?_
        first | refine g_pure (p_pickt rfl rfl) rfl ?_ | refine g_pure (p_pickf rfl rfl) rfl ?_
        refine g_pure (p_assign rfl) rfl ?_
        refine g_nil ?_
        refine g_qt ?_
        refine g_ift rfl ?_
        refine g_seq ?_
        refine g_region ?_
        refine g_pure (p_fieldAddr rfl) rfl ?_
        refine g_pure (p_load (by rfl) rfl (by first | (apply Has.own; (repeat' (first | exact Take.here | apply Take.there)); done) | exact Has.ro (by assumption)) (by first | rfl | assumption)) rfl ?_
        refine g_pure (p_assign rfl) rfl ?_
        refine g_pure (p_assign rfl) rfl ?_
        refine g_nil ?_
        refine g_qt ?_
        refine g_ret ?_
        refine g_qb_ret ?_
        refine gr_close hw hk (by repeat' (first | exact Cover.nil | exact Take.here | apply Cover.cons | apply Take.there)) rfl rfl rfl rfl ?_
        have e : and0 S a b = (max a b, 0, S) := by unfold and0; rw [if_neg c1, if_pos (.inl h3)]
        exact g_post (rs := [.tmp 6, .tmp 7]) rfl (.tmp rfl (.tmp rfl .nil)) ⟨by rw [e]; rfl, by rw [e]⟩ (by repeat' (first | exact Cover.nil | exact Take.here | apply Cover.cons | apply Take.there))
      · refine g_yes rfl rfl ?_
        refine g_pure (p_fieldAddr rfl) rfl ?_
        refine g_yes rfl rfl ?_
        refine g_pure (p_load (by rfl) rfl (by first | (apply Has.own; (repeat' (first | exact Take.here | apply Take.there)); done) | exact Has.ro (by assumption)) (by first | rfl | assumption)) rfl ?_
        refine g_yes rfl rfl ?_
        refine g_pure (p_fieldAddr rfl) rfl ?_
        refine g_yes rfl rfl ?_
        refine g_pure (p_load (by rfl) rfl (by first | (apply Has.own; (repeat' (first | exact Take.here | apply Take.there)); done) | exact Has.ro (by assumption)) (by first | rfl | assumption)) rfl ?_
        refine g_yes rfl rfl ?_
        refine g_pure (p_eql rfl rfl) rfl ?_
        first | refine g_pure (p_pickt rfl rfl) rfl ?_ | refine g_pure (p_pickf rfl rfl) rfl ?_
        refine g_pure (p_assign rfl) rfl ?_
        refine g_nil ?_
        refine g_qt ?_
        refine g_ifd rfl (fun h4 => ?_) (fun h4 => ?_)
        · refine g_seq ?_
          refine g_region ?_
          refine g_pure (p_fieldAddr rfl) rfl ?_
          refine g_pure (p_load (by rfl) rfl (by first | (apply Has.own; (repeat' (first | exact Take.here | apply Take.there)); done) | exact Has.ro (by assumption)) (by first | rfl | assumption)) rfl ?_
          refine g_pure (p_assign rfl) rfl ?_
          refine g_pure (p_assign rfl) rfl ?_
          refine g_nil ?_
          refine g_qt ?_
          refine g_ret ?_
          refine g_qb_ret ?_
          refine gr_close hw hk (by repeat' (first | exact Cover.nil | exact Take.here | apply Cover.cons | apply Take.there)) rfl rfl rfl rfl ?_
          have e : and0 S a b = (max a b, 0, S) := by unfold and0; rw [if_neg c1, if_pos (.inr h4)]
          exact g_post (rs := [.tmp 6, .tmp 7]) rfl (.tmp rfl (.tmp rfl .nil)) ⟨by rw [e]; rfl, by rw [e]⟩ (by repeat' (first | exact Cover.nil | exact Take.here | apply Cover.cons | apply Take.there))
        · have c2 : ¬ (min a b = 1 ∨ min a b = max a b) := by rintro (h | h); exact h3 h; exact h4 h
          cases hf : find (S.drop 1) 1 (min a b) (max a b) with
          | some u =>
            obtain ⟨q, hq⟩ : ∃ q, idx kn (min a b, max a b) 0 = some (q, .int .i64 (2 * (u : Int))) := by
              rw [hf] at hlook
              cases hi : idx kn (min a b, max a b) 0 with
              | none => rw [hi] at hlook; simp at hlook
              | some r => rw [hi] at hlook; simp at hlook; exact ⟨r.1, by rw [← hlook]⟩
            have e : and0 S a b = (2 * (u : Int), 0, S) := by unfold and0; rw [if_neg c1, if_neg c2, hf]
            refine g_seq ?_
            refine g_seq ?_
            refine m_begin0 (.fl 0 0 (.fl 1 0 (.fl 2 0 (.fl 3 1 (.fl 4 1 (.fl 5 1 (.fl 6 0 (.fl 7 0 (.fl 8 0 (.fl 9 0 (.fl 10 0 .done))))))))))) (by kernel_rfl) (by kernel_rfl) ?_
            refine m_float0 rfl (fun _ _ => p_move rfl) rfl ?_
            refine m_float0 rfl (fun _ _ => p_nilCheck rfl) rfl ?_
            refine m_float0 rfl (fun _ _ => p_fieldAddr rfl) rfl ?_
            refine m_float rfl (p_load (by rfl) rfl (by first | (apply Has.own; (repeat' (first | exact Take.here | apply Take.there)); done) | exact Has.ro (by assumption)) (by first | rfl | assumption)) rfl ?_
            first | refine m_float rfl (p_loadO (by rfl) rfl (by first | (apply Has.own; (repeat' (first | exact Take.here | apply Take.there)); done) | exact Has.ro (by assumption)) (by rfl)) rfl ?_ | refine m_float rfl (p_loadN (by rfl) rfl (by first | (apply Has.own; (repeat' (first | exact Take.here | apply Take.there)); done) | exact Has.ro (by assumption)) (by first | rfl | assumption)) rfl ?_
            refine m_float rfl (p_lookS (k := (min a b, max a b)) keyGate rfl rfl (HasMap.own (by repeat' (first | exact Take.here | apply Take.there))) hq) rfl ?_
            refine m_float0 rfl (fun _ _ => p_move rfl) rfl ?_
            refine m_float0 rfl (fun _ _ => p_extract rfl rfl) rfl ?_
            refine m_float0 rfl (fun _ _ => p_extract rfl rfl) rfl ?_
            refine m_float0 rfl (fun _ _ => p_assign rfl) rfl ?_
            refine m_float0 rfl (fun _ _ => p_assign rfl) rfl ?_
            refine m_nil ?_
            refine g_qt ?_
            refine g_seq ?_
            refine g_region ?_
            refine g_pure (p_move rfl) rfl ?_
            refine g_nil ?_
            refine g_qt ?_
            refine g_ift rfl ?_
            refine g_seq ?_
            refine g_region ?_
            refine g_pure (p_move rfl) rfl ?_
            refine g_pure (p_assign rfl) rfl ?_
            refine g_pure (p_assign rfl) rfl ?_
            refine g_nil ?_
            refine g_qt ?_
            refine g_ret ?_
            refine g_qt_ret ?_
            refine g_qb_ret ?_
            refine gr_close hw hk (by repeat' (first | exact Cover.nil | exact Take.here | apply Cover.cons | apply Take.there)) rfl rfl rfl rfl ?_
            exact g_post (rs := [.tmp 6, .tmp 7]) rfl (.tmp rfl (.tmp rfl .nil)) ⟨by rw [e]; rfl, by rw [e]⟩ (by repeat' (first | exact Cover.nil | exact Take.here | apply Cover.cons | apply Take.there))
          | none =>
            have hq : idx kn (min a b, max a b) 0 = none := by
              rw [hf] at hlook; simpa using hlook
            have hx : 2 ≤ min a b := by omega
            have hxy : min a b < max a b := by omega
            have hy : max a b < 2 * S.length := by omega
            refine g_seq ?_
            refine g_seq ?_
            refine m_begin0 (.fl 0 0 (.fl 1 0 (.fl 2 0 (.fl 3 1 (.fl 4 1 (.fl 5 1 (.fl 6 0 (.fl 7 0 (.fl 8 0 (.fl 9 0 (.fl 10 0 .done))))))))))) (by kernel_rfl) (by kernel_rfl) ?_
            refine m_float0 rfl (fun _ _ => p_move rfl) rfl ?_
            refine m_float0 rfl (fun _ _ => p_nilCheck rfl) rfl ?_
            refine m_float0 rfl (fun _ _ => p_fieldAddr rfl) rfl ?_
            refine m_float rfl (p_load (by rfl) rfl (by first | (apply Has.own; (repeat' (first | exact Take.here | apply Take.there)); done) | exact Has.ro (by assumption)) (by first | rfl | assumption)) rfl ?_
            first | refine m_float rfl (p_loadO (by rfl) rfl (by first | (apply Has.own; (repeat' (first | exact Take.here | apply Take.there)); done) | exact Has.ro (by assumption)) (by rfl)) rfl ?_ | refine m_float rfl (p_loadN (by rfl) rfl (by first | (apply Has.own; (repeat' (first | exact Take.here | apply Take.there)); done) | exact Has.ro (by assumption)) (by first | rfl | assumption)) rfl ?_
            refine m_float rfl (p_lookN (k := (min a b, max a b)) keyGate rfl rfl (HasMap.own (by repeat' (first | exact Take.here | apply Take.there))) hq rfl) rfl ?_
            refine m_float0 rfl (fun _ _ => p_move rfl) rfl ?_
            refine m_float0 rfl (fun _ _ => p_extract rfl rfl) rfl ?_
            refine m_float0 rfl (fun _ _ => p_extract rfl rfl) rfl ?_
            refine m_float0 rfl (fun _ _ => p_assign rfl) rfl ?_
            refine m_float0 rfl (fun _ _ => p_assign rfl) rfl ?_
            refine m_nil ?_
            refine g_qt ?_
            refine g_seq ?_
            refine g_region ?_
            refine g_pure (p_move rfl) rfl ?_
            refine g_nil ?_
            refine g_qt ?_
            refine g_iff rfl ?_
            refine g_skip ?_
            refine g_qt ?_
            refine g_seq ?_
            refine g_region ?_
            refine g_pure (p_move rfl) rfl ?_
            first | refine g_pure (p_loadO (by rfl) rfl (by first | (apply Has.own; (repeat' (first | exact Take.here | apply Take.there)); done) | exact Has.ro (by assumption)) (by rfl)) rfl ?_ | refine g_pure (p_loadN (by rfl) rfl (by first | (apply Has.own; (repeat' (first | exact Take.here | apply Take.there)); done) | exact Has.ro (by assumption)) (by first | rfl | assumption)) rfl ?_
            refine g_call (Hin := ?hi5) (Hr := ?hr5) (R := ?rr5) rfl rfl rfl ?hin5 ?hc5 ?hk5
            case hc5 => intro ρ' hρ hR; exact add_ok p av S.length cv (.slice ai (ins 0 S).length ci) (.map (some mb)) (S.flatMap encG) (min a b) (max a b) hw.lim
            case hin5 => repeat' (first | exact Cover.nil | exact Take.here | apply Cover.cons | apply Take.there)
            rintro _ _ (⟨hl, rfl, rfl⟩ | ⟨hl, av', cv', rfl, rfl⟩)
            · refine g_pure (p_move rfl) rfl ?_
              refine g_pure (p_extract rfl rfl) rfl ?_
              refine g_pure (p_extract rfl rfl) rfl ?_
              refine g_pure (p_assign rfl) rfl ?_
              refine g_pure (p_assign rfl) rfl ?_
              refine g_nil ?_
              refine g_qt ?_
              refine g_seq ?_
              refine g_seq ?_
              refine g_region ?_
              refine g_pure (p_move rfl) rfl ?_
              refine g_pure (p_eql rfl rfl) rfl ?_
              refine g_nil ?_
              refine g_qt ?_
              refine g_iff rfl ?_
              refine g_skip ?_
              refine g_qt ?_
              refine g_seq ?_
              refine g_region ?_
              refine g_pure (p_move rfl) rfl ?_
              refine g_pure (p_move rfl) rfl ?_
              refine g_pure (p_assign rfl) rfl ?_
              refine g_pure (p_assign rfl) rfl ?_
              refine g_nil ?_
              refine g_qt ?_
              refine g_ret ?_
              refine g_qb_ret ?_
              have e : and0 S a b = (0, 3, S) := by unfold and0; rw [if_neg c1, if_neg c2, hf]; exact if_pos hl
              refine gr_close hw hk (by repeat' (first | exact Cover.nil | exact Take.here | apply Cover.cons | apply Take.there)) rfl rfl rfl rfl ?_
              exact g_post (rs := [.tmp 6, .tmp 7]) rfl (.tmp rfl (.tmp rfl .nil)) ⟨by rw [e]; rfl, by rw [e]⟩ (by repeat' (first | exact Cover.nil | exact Take.here | apply Cover.cons | apply Take.there))
            · obtain ⟨hkn, hk'⟩ := hk.gate hw.pos hf
              have hw' := hw.gate' hl hx hxy hy hf
              have e : and0 S a b = (2 * (S.length : Int), 0, S ++ [(min a b, max a b, false)]) := by unfold and0; rw [if_neg c1, if_neg c2, hf]; exact if_neg (by omega)
              refine g_pure (p_move rfl) rfl ?_
              refine g_pure (p_extract rfl rfl) rfl ?_
              refine g_pure (p_extract rfl rfl) rfl ?_
              refine g_pure (p_assign rfl) rfl ?_
              refine g_pure (p_assign rfl) rfl ?_
              refine g_nil ?_
              refine g_qt ?_
              refine g_seq ?_
              refine g_seq ?_
              refine g_region ?_
              refine g_pure (p_move rfl) rfl ?_
              refine g_pure (p_eql rfl rfl) rfl ?_
              refine g_nil ?_
              refine g_qt ?_
              refine g_ift rfl ?_
              refine m_begin0 (.fl 0 0 (.fl 1 0 (.fl 2 0 (.fl 3 1 (.fl 4 1 (.fl 5 0 (.ef 6 .done))))))) (by kernel_rfl) (by kernel_rfl) ?_
              refine m_float0 rfl (fun _ _ => p_move rfl) rfl ?_
              refine m_float0 rfl (fun _ _ => p_nilCheck rfl) rfl ?_
              refine m_float0 rfl (fun _ _ => p_fieldAddr rfl) rfl ?_
              refine m_float rfl (p_load (by rfl) rfl (by first | (apply Has.own; (repeat' (first | exact Take.here | apply Take.there)); done) | exact Has.ro (by assumption)) (by first | rfl | assumption)) rfl ?_
              first | refine m_float rfl (p_loadO (by rfl) rfl (by first | (apply Has.own; (repeat' (first | exact Take.here | apply Take.there)); done) | exact Has.ro (by assumption)) (by rfl)) rfl ?_ | refine m_float rfl (p_loadN (by rfl) rfl (by first | (apply Has.own; (repeat' (first | exact Take.here | apply Take.there)); done) | exact Has.ro (by assumption)) (by first | rfl | assumption)) rfl ?_
              refine m_float0 rfl (fun _ _ => p_move rfl) rfl ?_
              refine m_eff0 rfl (e_mapNew (k := (min a b, max a b)) keyGate rfl rfl rfl (by repeat' (first | exact Take.here | apply Take.there)) hkn) (fun _ _ => ?_)
              rintro rfl
              refine ⟨.none (by kernel_rfl), ?_⟩
              refine m_nil ?_
              refine g_qt ?_
              refine g_seq ?_
              refine g_region ?_
              refine g_pure (p_move rfl) rfl ?_
              refine g_pure (p_move rfl) rfl ?_
              refine g_pure (p_assign rfl) rfl ?_
              refine g_pure (p_assign rfl) rfl ?_
              refine g_nil ?_
              refine g_qt ?_
              refine g_ret ?_
              refine g_qb_ret ?_
              refine gr_close hw' hk' (by repeat' (first | exact Cover.nil | exact Take.here | apply Cover.cons | apply Take.there)) (by simp) (by rw [ins_append]; simp [ins]) (by simp [encG]) (by rw [ins_append]; simp [ins]) ?_
              exact g_post (rs := [.tmp 6, .tmp 7]) rfl (.tmp rfl (.tmp rfl .nil)) ⟨by rw [e]; rfl, by rw [e]⟩ (by repeat' (first | exact Cover.nil | exact Take.here | apply Cover.cons | apply Take.there))
end Go.Proofs.Ytkebblmmgcgjkaa
