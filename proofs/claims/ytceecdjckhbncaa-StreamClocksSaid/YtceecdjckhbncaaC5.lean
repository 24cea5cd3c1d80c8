/- Chapter 16: streams in memory; cells; small functions. Conditions: none. -/
import Derived.Test.YtceecdjckhbncaaC4
namespace Go.Z.Val
set_option linter.unusedVariables false
set_option linter.unusedSimpArgs false
set_option linter.unusedSectionVars false
open Go Go.Z
/-- streams that nobody writes -/
def SlS (ρ : Nat → Obj → Prop) (a : Option Addr) (l : List (List Ce)) : Prop := ∃ cells : List Value, cells.length = l.length ∧ (∀ j (hj : j < l.length), ∃ aj cj, cells[j]? = some (.slice aj l[j].length cj) ∧ RSl ρ 2 aj l[j].length (l[j].flatMap encC)) ∧ RSl ρ 1 a l.length cells
theorem SlS.mono {ρ ρ' : Nat → Obj → Prop} {a : Option Addr} {l : List (List Ce)} (h : SlS ρ a l) (s : ∀ b o, ρ b o → ρ' b o) : SlS ρ' a l :=
  let ⟨c, h1, h2, h3⟩ := h; ⟨c, h1, fun j hj => let ⟨x, y, e, r⟩ := h2 j hj; ⟨x, y, e, r.mono s⟩, h3.mono s⟩
theorem SlS.at {ρ : Nat → Obj → Prop} {a : Option Addr} {l : List (List Ce)} (h : SlS ρ a l) (h0 : 0 < l.length) :
    ∃ b off cs T fz, a = some ⟨b, off, none⟩ ∧ ρ b (.cells (cs : List Value).toArray T fz) ∧ ∀ j (hj : j < l.length), ∃ aj cj, cs[off + j * 1]? = some (.slice aj l[j].length cj) ∧ RSl ρ 2 aj l[j].length (l[j].flatMap encC) := by
  obtain ⟨cells, h1, h2, _, b, off, cs, T, fz, h3⟩ := h
  obtain ⟨r1, r2, r3⟩ := h3 h0
  refine ⟨b, off, cs, T, fz, r1, r2, fun j hj => ?_⟩
  obtain ⟨aj, cj, e, r⟩ := h2 j hj
  exact ⟨aj, cj, by rw [Nat.mul_one]; exact r3 j _ e, r⟩
/-- the length of the shortest -/
def lenF : List (List Ce) → Nat
  | [] => 0
  | a :: l => l.foldl (fun n b => min n b.length) a.length
theorem lenF_take {a : List Ce} {l : List (List Ce)} {j : Nat} (h : j < (a :: l).length) : ((a :: l).take (j + 1)).foldl (fun n (b : List Ce) => min n b.length) a.length = min (((a :: l).take j).foldl (fun n (b : List Ce) => min n b.length) a.length) (a :: l)[j].length := by
  rw [List.take_add_one, List.getElem?_eq_getElem h, Option.toList_some, List.foldl_append]; rfl
theorem lenF_all (a : List Ce) (l : List (List Ce)) : (a :: l).foldl (fun n (b : List Ce) => min n b.length) a.length = lenF (a :: l) := by
  simp [lenF]
theorem lenF_le {l : List (List Ce)} : ∀ a ∈ l, lenF l ≤ a.length := by
  have key : ∀ (l : List (List Ce)) (n : Nat), l.foldl (fun n b => min n b.length) n ≤ n ∧ ∀ a ∈ l, l.foldl (fun n b => min n b.length) n ≤ a.length := by
    intro l
    induction l with
    | nil => intro n; exact ⟨Nat.le_refl _, fun a h => absurd h List.not_mem_nil⟩
    | cons b l ih =>
      intro n
      have := ih (min n b.length)
      refine ⟨by rw [List.foldl_cons]; omega, fun a ha => ?_⟩
      rw [List.foldl_cons]
      rcases List.mem_cons.1 ha with rfl | ha
      · omega
      · exact this.2 a ha
  cases l with
  | nil => intro a h; cases h
  | cons b l =>
    intro a ha
    rcases List.mem_cons.1 ha with rfl | ha
    · exact (key l _).1
    · exact (key l _).2 a ha
def at0 (a : List Ce) (t : Nat) : Ce := a.getD t (0, 0)
theorem at0_eq {a : List Ce} {t : Nat} (h : t < a.length) : at0 a t = a[t] := by unfold at0; rw [List.getD_eq_getElem?_getD, List.getElem?_eq_getElem h]; rfl
def jointF (l : List (List Ce)) (t : Nat) : Bool := l.all fun a => thereB (at0 a t)
theorem thereB_clean (c : Ce) : thereB (cleanF c) = thereB c := by
  unfold thereB cleanF
  by_cases h1 : c.1 = 1
  · simp [h1]
  · by_cases h2 : c.1 = 2 <;> simp [h1, h2]
theorem cleanF_idem (c : Ce) : cleanF (cleanF c) = cleanF c := by
  unfold cleanF
  by_cases h1 : c.1 = 1
  · simp [h1]
  · by_cases h2 : c.1 = 2 <;> simp [h1, h2]
theorem cleanF_not {c : Ce} (h : thereB c = false) : cleanF c = (0, 0) := by
  unfold thereB at h
  simp at h
  unfold cleanF
  rw [if_neg h.1, if_neg h.2]
/-- equality of streams as rows of cells -/
theorem take_eq {α : Type} {xs ys : List α} {i : Nat} (h : xs.take i = ys.take i) (h1 : i < xs.length) (h2 : i < ys.length) (e : xs[i] = ys[i]) : xs.take (i + 1) = ys.take (i + 1) := by
  rw [List.take_add_one, List.take_add_one, h, List.getElem?_eq_getElem h1, List.getElem?_eq_getElem h2, e]
end Go.Z.Val
namespace Go.Proofs.Ytceecdjckhbncaa
open Go Go.Z Go.Z.Val

theorem eqCell (d : Nat) (a b c e : Int) (w : World) : (Op.equalIn (d + 2) 31 (.agg #[.int .i64 a, .int .i64 b]) (.agg #[.int .i64 c, .int .i64 e])).run Try.prog w = .ok (decide (a = c) && decide (b = e)) w := by
  have hf : Try.prog.fieldsOf 31 = match Try.t30.desc with | .struct fs => fs | _ => #[] := by kernel_rfl
  have hg : ∀ w, (isAgg 3).run Try.prog w = .ok false w := fun w => TyC.run_agg (ty3) w
  rw [run_equalIn_agg w (d + 1) _ _ _ (by kernel_rfl) (by kernel_rfl), hf]
  have e1 : ∀ i j : Int, (i == j) = decide (i = j) := fun i j => rfl
  have hu : Try.prog.underlying 3 = some (.int .i64) := Try.underlying3
  simp only [Try.t30, Op.eqFields, part, Sem.run_bind, hg, Result.andThen_ok]
  by_cases h1 : a = c <;> by_cases h2 : b = e <;> simp [run_equalIn_int, hu, hg, h1, h2]

theorem there_ok {ρ : Nat → Obj → Prop} (c : Ce) : Con Try.prog ρ 50 #[aggC c] [] (fun v H => v = .bool (thereB c) ∧ H = []) := by
  obtain ⟨c1, c2⟩ := c
  show Con _ _ _ #[.agg #[.int .i64 c1, .int .i64 c2]] _ _
  refine con_intro Try.func50 Try.call50 rfl Try.ntmps50 rfl (L := [(0, _)]) rfl fun w hh => ?_
  refine g_seq ?_
  refine g_region ?_
  refine g_eff (e_box rfl (by rfl)) rfl (fun _ _ => ?_)
  rintro ⟨b1, rfl, rfl⟩
  refine g_pure (p_assign rfl) rfl ?_
  refine g_nil ?_
  refine g_qt ?_
  refine g_seq ?_
  refine g_region ?_
  refine g_pure (p_fieldAddr rfl) rfl ?_
  refine g_pure (p_load (by rfl) rfl (by first | (apply Has.own; (repeat' (first | exact Take.here | apply Take.there)); done) | exact Has.ro (by assumption)) (by first | rfl | assumption)) rfl ?_
  refine g_pure (p_eql rfl rfl) rfl ?_
  refine g_pure (p_move rfl) rfl ?_
  refine g_splitd rfl rfl (fun h1 => ?_) (fun h1 => ?_)
  · refine g_no rfl rfl rfl rfl ?_
    refine g_no rfl rfl rfl rfl ?_
    refine g_no rfl rfl rfl rfl ?_
    first | refine g_pure (p_pickt rfl rfl) rfl ?_ | refine g_pure (p_pickf rfl rfl) rfl ?_
    refine g_pure (p_assign rfl) rfl ?_
    refine g_nil ?_
    refine g_qt ?_
    refine g_ret ?_
    exact g_post (Ho := []) (rs := [.tmp 2]) rfl (.tmp rfl .nil) ⟨by show Value.bool _ = Value.bool _; congr 1; unfold thereB; simp [*], rfl⟩ (by repeat' (first | exact Cover.nil | exact Take.here | apply Cover.cons | apply Take.there))
  · refine g_yes rfl rfl ?_
    refine g_pure (p_fieldAddr rfl) rfl ?_
    refine g_yes rfl rfl ?_
    refine g_pure (p_load (by rfl) rfl (by first | (apply Has.own; (repeat' (first | exact Take.here | apply Take.there)); done) | exact Has.ro (by assumption)) (by first | rfl | assumption)) rfl ?_
    refine g_yes rfl rfl ?_
    refine g_pure (p_eql rfl rfl) rfl ?_
    first | refine g_pure (p_pickt rfl rfl) rfl ?_ | refine g_pure (p_pickf rfl rfl) rfl ?_
    refine g_pure (p_assign rfl) rfl ?_
    refine g_nil ?_
    refine g_qt ?_
    refine g_ret ?_
    exact g_post (Ho := []) (rs := [.tmp 2]) rfl (.tmp rfl .nil) ⟨by show Value.bool _ = Value.bool _; congr 1; unfold thereB; simp [*], rfl⟩ (by repeat' (first | exact Cover.nil | exact Take.here | apply Cover.cons | apply Take.there))
theorem dthere_ok {ρ : Nat → Obj → Prop} (c : Ce) : Con Try.prog ρ 18 #[aggC c] [] (fun v H => v = .bool (thereB c) ∧ H = []) := by
  obtain ⟨c1, c2⟩ := c
  show Con _ _ _ #[.agg #[.int .i64 c1, .int .i64 c2]] _ _
  refine con_intro Try.func18 Try.call18 rfl Try.ntmps18 rfl (L := [(0, _)]) rfl fun w hh => ?_
  refine g_seq ?_
  refine g_region ?_
  refine g_eff (e_box rfl (by rfl)) rfl (fun _ _ => ?_)
  rintro ⟨b1, rfl, rfl⟩
  refine g_pure (p_assign rfl) rfl ?_
  refine g_nil ?_
  refine g_qt ?_
  refine g_seq ?_
  refine g_region ?_
  refine g_pure (p_fieldAddr rfl) rfl ?_
  refine g_pure (p_load (by rfl) rfl (by first | (apply Has.own; (repeat' (first | exact Take.here | apply Take.there)); done) | exact Has.ro (by assumption)) (by first | rfl | assumption)) rfl ?_
  refine g_pure (p_eql rfl rfl) rfl ?_
  refine g_pure (p_move rfl) rfl ?_
  refine g_splitd rfl rfl (fun h1 => ?_) (fun h1 => ?_)
  · refine g_no rfl rfl rfl rfl ?_
    refine g_no rfl rfl rfl rfl ?_
    refine g_no rfl rfl rfl rfl ?_
    first | refine g_pure (p_pickt rfl rfl) rfl ?_ | refine g_pure (p_pickf rfl rfl) rfl ?_
    refine g_pure (p_assign rfl) rfl ?_
    refine g_nil ?_
    refine g_qt ?_
    refine g_ret ?_
    exact g_post (Ho := []) (rs := [.tmp 2]) rfl (.tmp rfl .nil) ⟨by show Value.bool _ = Value.bool _; congr 1; unfold thereB; simp [*], rfl⟩ (by repeat' (first | exact Cover.nil | exact Take.here | apply Cover.cons | apply Take.there))
  · refine g_yes rfl rfl ?_
    refine g_pure (p_fieldAddr rfl) rfl ?_
    refine g_yes rfl rfl ?_
    refine g_pure (p_load (by rfl) rfl (by first | (apply Has.own; (repeat' (first | exact Take.here | apply Take.there)); done) | exact Has.ro (by assumption)) (by first | rfl | assumption)) rfl ?_
    refine g_yes rfl rfl ?_
    refine g_pure (p_eql rfl rfl) rfl ?_
    first | refine g_pure (p_pickt rfl rfl) rfl ?_ | refine g_pure (p_pickf rfl rfl) rfl ?_
    refine g_pure (p_assign rfl) rfl ?_
    refine g_nil ?_
    refine g_qt ?_
    refine g_ret ?_
    exact g_post (Ho := []) (rs := [.tmp 2]) rfl (.tmp rfl .nil) ⟨by show Value.bool _ = Value.bool _; congr 1; unfold thereB; simp [*], rfl⟩ (by repeat' (first | exact Cover.nil | exact Take.here | apply Cover.cons | apply Take.there))
theorem clean_ok {ρ : Nat → Obj → Prop} (c : Ce) : Con Try.prog ρ 58 #[aggC c] [] (fun v H => v = aggC (cleanF c) ∧ H = []) := by
  obtain ⟨c1, c2⟩ := c
  show Con _ _ _ #[.agg #[.int .i64 c1, .int .i64 c2]] _ _
  refine con_intro Try.func58 Try.call58 rfl Try.ntmps58 rfl (L := [(0, _)]) rfl fun w hh => ?_
  refine g_seq ?_
  refine g_region ?_
  refine g_eff (e_box rfl (by rfl)) rfl (fun _ _ => ?_)
  rintro ⟨b1, rfl, rfl⟩
  refine g_eff (e_alloc (by rfl)) rfl (fun _ _ => ?_)
  rintro ⟨b2, rfl, rfl⟩
  refine g_nil ?_
  refine g_qt ?_
  refine g_seq ?_
  refine g_seq ?_
  refine g_region ?_
  refine g_pure (p_fieldAddr rfl) rfl ?_
  refine g_pure (p_load (by rfl) rfl (by first | (apply Has.own; (repeat' (first | exact Take.here | apply Take.there)); done) | exact Has.ro (by assumption)) (by first | rfl | assumption)) rfl ?_
  refine g_nil ?_
  refine g_qt ?_
  refine g_block ?_
  refine g_seq ?_
  refine g_region ?_
  refine g_pure (p_eql rfl rfl) rfl ?_
  refine g_pure (p_assign rfl) rfl ?_
  refine g_nil ?_
  refine g_qt ?_
  refine g_ifdL rfl (fun h1 => ?_) (fun h1 => ?_)
  · refine g_seq ?_
    refine g_region ?_
    first | refine g_pure (p_loadO (by rfl) rfl (by first | (apply Has.own; (repeat' (first | exact Take.here | apply Take.there)); done) | exact Has.ro (by assumption)) (by rfl)) rfl ?_ | refine g_pure (p_loadN (by rfl) rfl (by first | (apply Has.own; (repeat' (first | exact Take.here | apply Take.there)); done) | exact Has.ro (by assumption)) (by first | rfl | assumption)) rfl ?_
    first | refine g_eff0 (e_storeO rfl rfl (by rfl) (by rfl) (by rfl) (by repeat' (first | exact Take.here | apply Take.there)) (by rfl)) (fun _ _ => ?_) | refine g_eff0 (e_storeN rfl rfl (by rfl) (by rfl) (by rfl) (by repeat' (first | exact Take.here | apply Take.there)) (by simp)) (fun _ _ => ?_)
    rintro rfl
    refine g_nil ?_
    refine g_qt ?_
    refine g_ret ?_
    refine g_qb_ret ?_
    refine g_qt_ret ?_
    exact g_post (Ho := []) (rs := [.cell 2 31]) rfl (Res.cellN (by rfl) rfl (Has.own (by repeat' (first | exact Take.here | apply Take.there))) (by rfl) .nil) ⟨by unfold cleanF; simp [*]; first | done | rfl, rfl⟩ (by repeat' (first | exact Cover.nil | exact Take.here | apply Cover.cons | apply Take.there))
  · refine g_seq ?_
    refine g_region ?_
    refine g_pure (p_eql rfl rfl) rfl ?_
    refine g_pure (p_assign rfl) rfl ?_
    refine g_nil ?_
    refine g_qt ?_
    refine g_ifdL rfl (fun h2 => ?_) (fun h2 => ?_)
    · refine g_seq ?_
      refine g_region ?_
      refine g_pure (p_build (by rfl) rfl (by rfl)) rfl ?_
      first | refine g_eff0 (e_storeO rfl rfl (by rfl) (by rfl) (by rfl) (by repeat' (first | exact Take.here | apply Take.there)) (by rfl)) (fun _ _ => ?_) | refine g_eff0 (e_storeN rfl rfl (by rfl) (by rfl) (by rfl) (by repeat' (first | exact Take.here | apply Take.there)) (by simp)) (fun _ _ => ?_)
      rintro rfl
      refine g_nil ?_
      refine g_qt ?_
      refine g_ret ?_
      refine g_qb_ret ?_
      refine g_qt_ret ?_
      exact g_post (Ho := []) (rs := [.cell 2 31]) rfl (Res.cellN (by rfl) rfl (Has.own (by repeat' (first | exact Take.here | apply Take.there))) (by rfl) .nil) ⟨by unfold cleanF; simp [*]; first | done | rfl, rfl⟩ (by repeat' (first | exact Cover.nil | exact Take.here | apply Cover.cons | apply Take.there))
    · refine g_skip ?_
      refine g_qb ?_
      refine g_qt ?_
      refine g_seq ?_
      refine g_region ?_
      refine g_pure (p_build (by rfl) rfl (by rfl)) rfl ?_
      first | refine g_eff0 (e_storeO rfl rfl (by rfl) (by rfl) (by rfl) (by repeat' (first | exact Take.here | apply Take.there)) (by rfl)) (fun _ _ => ?_) | refine g_eff0 (e_storeN rfl rfl (by rfl) (by rfl) (by rfl) (by repeat' (first | exact Take.here | apply Take.there)) (by simp)) (fun _ _ => ?_)
      rintro rfl
      refine g_nil ?_
      refine g_qt ?_
      refine g_ret ?_
      exact g_post (Ho := []) (rs := [.cell 2 31]) rfl (Res.cellN (by rfl) rfl (Has.own (by repeat' (first | exact Take.here | apply Take.there))) (by rfl) .nil) ⟨by unfold cleanF; simp [*]; first | done | rfl, rfl⟩ (by repeat' (first | exact Cover.nil | exact Take.here | apply Cover.cons | apply Take.there))
theorem plain_ok {ρ : Nat → Obj → Prop} (c : Ce) : Con Try.prog ρ 37 #[aggC c] [] (fun v H => v = aggC (cleanF c) ∧ H = []) := by
  obtain ⟨c1, c2⟩ := c
  show Con _ _ _ #[.agg #[.int .i64 c1, .int .i64 c2]] _ _
  refine con_intro Try.func37 Try.call37 rfl Try.ntmps37 rfl (L := [(0, _)]) rfl fun w hh => ?_
  refine g_seq ?_
  refine g_region ?_
  refine g_eff (e_box rfl (by rfl)) rfl (fun _ _ => ?_)
  rintro ⟨b1, rfl, rfl⟩
  refine g_eff (e_alloc (by rfl)) rfl (fun _ _ => ?_)
  rintro ⟨b2, rfl, rfl⟩
  refine g_nil ?_
  refine g_qt ?_
  refine g_seq ?_
  refine g_seq ?_
  refine g_region ?_
  refine g_pure (p_fieldAddr rfl) rfl ?_
  refine g_pure (p_load (by rfl) rfl (by first | (apply Has.own; (repeat' (first | exact Take.here | apply Take.there)); done) | exact Has.ro (by assumption)) (by first | rfl | assumption)) rfl ?_
  refine g_pure (p_eql rfl rfl) rfl ?_
  refine g_nil ?_
  refine g_qt ?_
  refine g_ifdL rfl (fun h1 => ?_) (fun h1 => ?_)
  · refine g_seq ?_
    refine g_region ?_
    first | refine g_pure (p_loadO (by rfl) rfl (by first | (apply Has.own; (repeat' (first | exact Take.here | apply Take.there)); done) | exact Has.ro (by assumption)) (by rfl)) rfl ?_ | refine g_pure (p_loadN (by rfl) rfl (by first | (apply Has.own; (repeat' (first | exact Take.here | apply Take.there)); done) | exact Has.ro (by assumption)) (by first | rfl | assumption)) rfl ?_
    first | refine g_eff0 (e_storeO rfl rfl (by rfl) (by rfl) (by rfl) (by repeat' (first | exact Take.here | apply Take.there)) (by rfl)) (fun _ _ => ?_) | refine g_eff0 (e_storeN rfl rfl (by rfl) (by rfl) (by rfl) (by repeat' (first | exact Take.here | apply Take.there)) (by simp)) (fun _ _ => ?_)
    rintro rfl
    refine g_nil ?_
    refine g_qt ?_
    refine g_ret ?_
    refine g_qt_ret ?_
    exact g_post (Ho := []) (rs := [.cell 2 31]) rfl (Res.cellN (by rfl) rfl (Has.own (by repeat' (first | exact Take.here | apply Take.there))) (by rfl) .nil) ⟨by unfold cleanF; simp [*]; first | done | rfl, rfl⟩ (by repeat' (first | exact Cover.nil | exact Take.here | apply Cover.cons | apply Take.there))
  · refine g_skip ?_
    refine g_qt ?_
    refine g_seq ?_
    refine g_seq ?_
    refine g_region ?_
    refine g_pure (p_fieldAddr rfl) rfl ?_
    refine g_pure (p_load (by rfl) rfl (by first | (apply Has.own; (repeat' (first | exact Take.here | apply Take.there)); done) | exact Has.ro (by assumption)) (by first | rfl | assumption)) rfl ?_
    refine g_pure (p_eql rfl rfl) rfl ?_
    refine g_nil ?_
    refine g_qt ?_
    refine g_ifdL rfl (fun h2 => ?_) (fun h2 => ?_)
    · refine g_seq ?_
      refine g_region ?_
      refine g_pure (p_build (by rfl) rfl (by rfl)) rfl ?_
      first | refine g_eff0 (e_storeO rfl rfl (by rfl) (by rfl) (by rfl) (by repeat' (first | exact Take.here | apply Take.there)) (by rfl)) (fun _ _ => ?_) | refine g_eff0 (e_storeN rfl rfl (by rfl) (by rfl) (by rfl) (by repeat' (first | exact Take.here | apply Take.there)) (by simp)) (fun _ _ => ?_)
      rintro rfl
      refine g_nil ?_
      refine g_qt ?_
      refine g_ret ?_
      refine g_qt_ret ?_
      exact g_post (Ho := []) (rs := [.cell 2 31]) rfl (Res.cellN (by rfl) rfl (Has.own (by repeat' (first | exact Take.here | apply Take.there))) (by rfl) .nil) ⟨by unfold cleanF; simp [*]; first | done | rfl, rfl⟩ (by repeat' (first | exact Cover.nil | exact Take.here | apply Cover.cons | apply Take.there))
    · refine g_skip ?_
      refine g_qt ?_
      refine g_seq ?_
      refine g_region ?_
      refine g_pure (p_build (by rfl) rfl (by rfl)) rfl ?_
      first | refine g_eff0 (e_storeO rfl rfl (by rfl) (by rfl) (by rfl) (by repeat' (first | exact Take.here | apply Take.there)) (by rfl)) (fun _ _ => ?_) | refine g_eff0 (e_storeN rfl rfl (by rfl) (by rfl) (by rfl) (by repeat' (first | exact Take.here | apply Take.there)) (by simp)) (fun _ _ => ?_)
      rintro rfl
      refine g_nil ?_
      refine g_qt ?_
      refine g_ret ?_
      exact g_post (Ho := []) (rs := [.cell 2 31]) rfl (Res.cellN (by rfl) rfl (Has.own (by repeat' (first | exact Take.here | apply Take.there))) (by rfl) .nil) ⟨by unfold cleanF; simp [*]; first | done | rfl, rfl⟩ (by repeat' (first | exact Cover.nil | exact Take.here | apply Cover.cons | apply Take.there))
theorem undef_ok {ρ : Nat → Obj → Prop} : Con Try.prog ρ 34 #[] [] (fun v H => v = aggC (2, 0) ∧ H = []) := by
  refine con_intro Try.func34 Try.call34 rfl Try.ntmps34 rfl (L := []) rfl fun w hh => ?_
  refine g_seq ?_
  refine g_region ?_
  refine g_eff (e_alloc (by rfl)) rfl (fun _ _ => ?_)
  rintro ⟨b0, rfl, rfl⟩
  refine g_nil ?_
  refine g_qt ?_
  refine g_seq ?_
  refine g_region ?_
  refine g_pure (p_build (by rfl) rfl (by rfl)) rfl ?_
  first | refine g_eff0 (e_storeO rfl rfl (by rfl) (by rfl) (by rfl) (by repeat' (first | exact Take.here | apply Take.there)) (by rfl)) (fun _ _ => ?_) | refine g_eff0 (e_storeN rfl rfl (by rfl) (by rfl) (by rfl) (by repeat' (first | exact Take.here | apply Take.there)) (by simp)) (fun _ _ => ?_)
  rintro rfl
  refine g_nil ?_
  refine g_qt ?_
  refine g_ret ?_
  exact g_post (Ho := []) (rs := [.cell 0 31]) rfl (Res.cellN (by rfl) rfl (Has.own (by repeat' (first | exact Take.here | apply Take.there))) (by rfl) .nil) ⟨rfl, rfl⟩ (by repeat' (first | exact Cover.nil | exact Take.here | apply Cover.cons | apply Take.there))

theorem same_ok {ρ : Nat → Obj → Prop} {a b : Option Addr} {c d : Nat} {ka kb : Nat} {xs ys : List Ce} (ea : ka = xs.length) (eb : kb = ys.length) (ha : RSl ρ 2 a ka (xs.flatMap encC)) (hb : RSl ρ 2 b kb (ys.flatMap encC)) (hl : xs.length ≤ 1000000) (hl2 : ys.length ≤ 1000000) :
    Con Try.prog ρ 11 #[.slice a ka c, .slice b kb d] [] (fun v H => v = .bool (decide (xs = ys)) ∧ H = []) := by
  subst ea eb
  obtain ⟨_, b1, o1, k1, T1, f1, h1⟩ := ha
  obtain ⟨_, b2, o2, k2, T2, f2, h2⟩ := hb
  refine con_intro Try.func11 Try.call11 rfl Try.ntmps11 rfl (L := [(0, _), (1, _)]) rfl fun w hh => ?_
  refine g_seq ?_
  refine g_region ?_
  refine g_pure (p_assign rfl) rfl ?_
  refine g_nil ?_
  refine g_qt ?_
  refine g_seq ?_
  refine g_seq ?_
  refine g_region ?_
  refine g_pure (p_move rfl) rfl ?_
  refine g_pure (p_len (by rfl) rfl) rfl ?_
  refine g_pure (p_move rfl) rfl ?_
  refine g_pure (p_len (by rfl) rfl) rfl ?_
  refine g_pure (p_neq rfl rfl) rfl ?_
  refine g_nil ?_
  refine g_qt ?_
  refine g_ifnd rfl (fun e => ?_) (fun e => ?_)
  · have hne : xs ≠ ys := fun h => e (by rw [h])
    refine g_seq ?_
    refine g_region ?_
    refine g_pure (p_assign rfl) rfl ?_
    refine g_nil ?_
    refine g_qt ?_
    refine g_ret ?_
    refine g_qt_ret ?_
    exact g_post (rs := [.tmp 4]) rfl (.tmp rfl .nil) ⟨by rw [decide_eq_false hne]; rfl, rfl⟩ .nil
  · have hle : xs.length = ys.length := by omega
    refine g_skip ?_
    refine g_qt ?_
    refine g_seq ?_
    refine g_seq ?_
    refine g_region ?_
    refine g_pure (p_assign rfl) rfl ?_
    refine g_nil ?_
    refine g_qt ?_
    refine g_block ?_
    refine g_loop (fun i : Nat => [(0, .slice a xs.length c), (1, .slice b ys.length d), (5, .int .i64 i)])
      (fun _ => []) (fun i => i ≤ xs.length ∧ xs.take i = ys.take i) (fun i => xs.length - i) 0 ⟨Nat.zero_le _, rfl⟩ (by (repeat (first | exact trivial | refine ⟨by rfl, ?_⟩)); done) (by repeat' (first | exact Cover.nil | exact Take.here | apply Cover.cons | apply Take.there)) ?_
    rintro i ⟨hi, htk⟩
    refine g_seq ?_
    refine g_seq ?_
    refine g_region ?_
    refine g_pure (p_move rfl) rfl ?_
    refine g_pure (p_move rfl) rfl ?_
    refine g_pure (p_len (by rfl) rfl) rfl ?_
    refine g_pure (p_lss rfl rfl) rfl ?_
    refine g_nil ?_
    refine g_qt ?_
    refine g_ifd rfl (fun q => ?_) (fun q => ?_)
    · have hil : i < xs.length := by omega
      have hil2 : i < ys.length := by omega
      obtain ⟨l1, l2, l3⟩ := h1 (by omega)
      obtain ⟨m1, m2, m3⟩ := h2 (by omega)
      obtain ⟨x0, _, _⟩ := cell_at l3 hil
      obtain ⟨y0, _, _⟩ := cell_at m3 hil2
      have hno : xs[i] ≠ ys[i] → xs ≠ ys := fun h h2 => h (by subst h2; rfl)
      have hyes := take_eq htk hil hil2
      generalize xs[i] = u at *
      generalize ys[i] = v at *
      obtain ⟨u1, u2⟩ := u
      obtain ⟨v1, v2⟩ := v
      have x0' : sub k1 (o1 + (i : Int).toNat * 2) 2 = some [.int .i64 u1, .int .i64 u2] := x0
      have y0' : sub k2 (o2 + (i : Int).toNat * 2) 2 = some [.int .i64 v1, .int .i64 v2] := y0
      refine g_skip ?_
      refine g_qt ?_
      refine g_seq ?_
      refine g_block ?_
      refine g_seq ?_
      refine m_begin0 (.fl 0 0 (.fl 1 0 (.fl 2 0 (.fl 3 1 (.fl 4 0 (.fl 5 0 (.fl 6 0 (.fl 7 1 (.fl 8 0 .done))))))))) (by kernel_rfl) (by kernel_rfl) ?_
      refine m_float0 rfl (fun _ _ => p_move rfl) rfl ?_
      refine m_float0 rfl (fun _ _ => p_move rfl) rfl ?_
      refine m_float0 rfl (fun _ _ => p_indexAddr rfl rfl (by omega) (fun _ => l1)) rfl ?_
      refine m_float rfl (p_loadN (by rfl) rfl (Has.ro l2) x0') rfl ?_
      refine m_float0 rfl (fun _ _ => p_move rfl) rfl ?_
      refine m_float0 rfl (fun _ _ => p_move rfl) rfl ?_
      refine m_float0 rfl (fun _ _ => p_indexAddr rfl rfl (by omega) (fun _ => m1)) rfl ?_
      refine m_float rfl (p_loadN (by rfl) rfl (Has.ro m2) y0') rfl ?_
      refine m_float0 rfl (fun _ _ => p_neagg (eqCell 9998 u1 u2 v1 v2) (by kernel_rfl) rfl rfl) rfl ?_
      refine m_nil ?_
      refine g_qt ?_
      refine g_if rfl (fun r => ?_) (fun r => ?_)
      · have hne : xs ≠ ys := hno (fun h => by cases h; simp at r)
        refine g_seq ?_
        refine g_region ?_
        refine g_pure (p_assign rfl) rfl ?_
        refine g_nil ?_
        refine g_qt ?_
        refine g_ret ?_
        refine g_qb_ret ?_
        refine g_qt_ret ?_
        refine g_qn_ret ?_
        refine g_qb_ret ?_
        refine g_qt_ret ?_
        exact g_post (rs := [.tmp 4]) rfl (.tmp rfl .nil) ⟨by rw [decide_eq_false hne]; rfl, rfl⟩ .nil
      · have heq : u1 = v1 ∧ u2 = v2 := by simpa using r
        refine g_skip ?_
        refine g_qb ?_
        refine g_qt ?_
        refine g_region ?_
        refine g_pure (p_move rfl) rfl ?_
        first | refine g_pure (p_addi rfl rfl (by omega)) rfl ?_ | refine g_pure (p_add rfl rfl) rfl ?_
        refine g_pure (p_assign rfl) rfl ?_
        refine g_nil ?_
        refine g_qn ?_
        exact g_next (i + 1) (by (repeat (first | exact trivial | refine ⟨by rfl, ?_⟩)); done) (by repeat' (first | exact Cover.nil | exact Take.here | apply Cover.cons | apply Take.there)) ⟨by omega, hyes (by rw [heq.1, heq.2])⟩ (by omega)
    · have hie : i = xs.length := by omega
      rw [hie, List.take_length, List.take_of_length_le (by omega)] at htk
      refine g_exit ?_
      refine g_qt_exit ?_
      refine g_qn_exit ?_
      refine g_qb_exit ?_
      refine g_qt ?_
      refine g_seq ?_
      refine g_region ?_
      refine g_pure (p_assign rfl) rfl ?_
      refine g_nil ?_
      refine g_qt ?_
      refine g_ret ?_
      exact g_post (rs := [.tmp 4]) rfl (.tmp rfl .nil) ⟨by rw [decide_eq_true htk]; rfl, rfl⟩ .nil

theorem length_ok {ρ : Nat → Obj → Prop} {a : Option Addr} {c : Nat} {l : List (List Ce)} (h : SlS ρ a l) (h0 : 0 < l.length) (hlen : l.length ≤ 1000000) :
    Con Try.prog ρ 56 #[.slice a l.length c] [] (fun v H => v = .int .i64 (lenF l) ∧ H = []) := by
  obtain ⟨b, off, cs, T, fz, r1, r2, r3⟩ := h.at h0
  obtain ⟨x, l', rfl⟩ : ∃ x l', l = x :: l' := by cases l with | nil => simp at h0 | cons x l' => exact ⟨x, l', rfl⟩
  obtain ⟨a0, c0, e0, _⟩ := r3 0 h0
  have e0' : cs[off + (0 : Int).toNat * 1]? = some (.slice a0 x.length c0) := e0
  refine con_intro Try.func56 Try.call56 rfl Try.ntmps56 rfl (L := [(0, _)]) rfl fun w hh => ?_
  refine g_seq ?_
  refine g_region ?_
  refine g_pure (p_assign rfl) rfl ?_
  refine g_nil ?_
  refine g_qt ?_
  refine g_seq ?_
  refine g_region ?_
  refine g_pure (p_move rfl) rfl ?_
  refine g_pure (p_indexAddr rfl rfl (by omega) (fun _ => r1)) rfl ?_
  refine g_pure (p_load (by rfl) rfl (Has.ro r2) e0') rfl ?_
  refine g_pure (p_len (by rfl) rfl) rfl ?_
  refine g_pure (p_assign rfl) rfl ?_
  refine g_nil ?_
  refine g_qt ?_
  refine g_seq ?_
  refine g_seq ?_
  refine g_region ?_
  refine g_pure (p_move rfl) rfl ?_
  refine g_pure (p_len (by rfl) rfl) rfl ?_
  refine g_pure (p_move rfl) rfl ?_
  refine g_nil ?_
  refine g_qt ?_
  refine g_block ?_
  refine g_loop (fun j : Nat => [(3, .int .i64 (((x :: l').take j).foldl (fun n (b : List Ce) => min n b.length) x.length : Nat)), (10, .slice a (x :: l').length c), (11, .int .i64 (x :: l').length), (12, .int .i64 j)])
    (fun _ => []) (fun j => j ≤ (x :: l').length) (fun j => (x :: l').length - j) 0 (Nat.zero_le _) (by (repeat (first | exact trivial | refine ⟨by rfl, ?_⟩)); done) (by repeat' (first | exact Cover.nil | exact Take.here | apply Cover.cons | apply Take.there)) ?_
  intro j hj
  refine g_seq ?_
  refine g_region ?_
  refine g_pure (p_lss rfl rfl) rfl ?_
  refine g_nil ?_
  refine g_qt ?_
  refine g_seq ?_
  refine g_ifd rfl (fun q => ?_) (fun q => ?_)
  · have hjl : j < (x :: l').length := by omega
    obtain ⟨aj, cj, ej, _⟩ := r3 j hjl
    have ej' : cs[off + (j : Int).toNat * 1]? = some (.slice aj (x :: l')[j].length cj) := ej
    have hlt := lenF_take hjl
    refine g_skip ?_
    refine g_qt ?_
    refine g_seq ?_
    refine g_block ?_
    refine g_seq ?_
    refine g_region ?_
    refine g_pure (p_indexAddr rfl rfl (by omega) (fun _ => r1)) rfl ?_
    refine g_pure (p_load (by rfl) rfl (Has.ro r2) ej') rfl ?_
    refine g_pure (p_assign rfl) rfl ?_
    refine g_nil ?_
    refine g_qt ?_
    refine g_region ?_
    refine g_pure (p_move rfl) rfl ?_
    refine g_pure (p_move rfl) rfl ?_
    refine g_pure (p_len (by rfl) rfl) rfl ?_
    refine g_pure (p_min rfl rfl) rfl ?_
    refine g_pure (p_assign rfl) rfl ?_
    refine g_nil ?_
    refine g_qb ?_
    refine g_qt ?_
    refine g_region ?_
    first | refine g_pure (p_addi rfl rfl (by omega)) rfl ?_ | refine g_pure (p_add rfl rfl) rfl ?_
    refine g_pure (p_move rfl) rfl ?_
    refine g_nil ?_
    refine g_qn ?_
    rw [show min ((((x :: l').take j).foldl (fun n (b : List Ce) => min n b.length) x.length : Nat) : Int) (((x :: l')[j].length : Nat) : Int) = ((((x :: l').take (j + 1)).foldl (fun n (b : List Ce) => min n b.length) x.length : Nat) : Int) by rw [hlt]; omega]
    exact g_next (j + 1) (by (repeat (first | exact trivial | refine ⟨by rfl, ?_⟩)); done) (by repeat' (first | exact Cover.nil | exact Take.here | apply Cover.cons | apply Take.there)) (by omega) (by omega)
  · obtain rfl : j = (x :: l').length := by omega
    rw [List.take_length, lenF_all]
    refine g_exit ?_
    refine g_qt_exit ?_
    refine g_qn_exit ?_
    refine g_qb_exit ?_
    refine g_qt ?_
    refine g_seq ?_
    refine g_region ?_
    refine g_pure (p_move rfl) rfl ?_
    refine g_pure (p_assign rfl) rfl ?_
    refine g_nil ?_
    refine g_qt ?_
    refine g_ret ?_
    exact g_post (rs := [.tmp 2]) rfl (.tmp rfl .nil) ⟨rfl, rfl⟩ .nil

theorem together_ok {ρ : Nat → Obj → Prop} {a : Option Addr} {c : Nat} {l : List (List Ce)} (h : SlS ρ a l) (hlen : l.length ≤ 1000000) :
    Con Try.prog ρ 39 #[.slice a l.length c] [] (fun v H => v = .int .i64 (lenF l) ∧ H = []) := by
  refine con_intro Try.func39 Try.call39 rfl Try.ntmps39 rfl (L := [(0, _)]) rfl fun w hh => ?_
  refine g_seq ?_
  refine g_region ?_
  refine g_pure (p_assign rfl) rfl ?_
  refine g_nil ?_
  refine g_qt ?_
  refine g_seq ?_
  refine g_seq ?_
  refine g_region ?_
  refine g_pure (p_move rfl) rfl ?_
  refine g_pure (p_len (by rfl) rfl) rfl ?_
  refine g_pure (p_eql rfl rfl) rfl ?_
  refine g_nil ?_
  refine g_qt ?_
  refine g_ifd rfl (fun e => ?_) (fun e => ?_)
  · have : l = [] := List.eq_nil_of_length_eq_zero (by omega)
    subst this
    refine g_seq ?_
    refine g_region ?_
    refine g_pure (p_assign rfl) rfl ?_
    refine g_nil ?_
    refine g_qt ?_
    refine g_ret ?_
    refine g_qt_ret ?_
    exact g_post (rs := [.tmp 2]) rfl (.tmp rfl .nil) ⟨rfl, rfl⟩ .nil
  · have h0 : 0 < l.length := by omega
    obtain ⟨b, off, cs, T, fz, r1, r2, r3⟩ := h.at h0
    obtain ⟨x, l', rfl⟩ : ∃ x l', l = x :: l' := by cases l with | nil => simp at h0 | cons x l' => exact ⟨x, l', rfl⟩
    obtain ⟨a0, c0, e0, _⟩ := r3 0 h0
    have e0' : cs[off + (0 : Int).toNat * 1]? = some (.slice a0 x.length c0) := e0
    refine g_skip ?_
    refine g_qt ?_
    refine g_seq ?_
    refine g_region ?_
    refine g_pure (p_move rfl) rfl ?_
    refine g_pure (p_indexAddr rfl rfl (by omega) (fun _ => r1)) rfl ?_
    refine g_pure (p_load (by rfl) rfl (Has.ro r2) e0') rfl ?_
    refine g_pure (p_len (by rfl) rfl) rfl ?_
    refine g_pure (p_assign rfl) rfl ?_
    refine g_nil ?_
    refine g_qt ?_
    refine g_seq ?_
    refine g_seq ?_
    refine g_region ?_
    refine g_pure (p_assign rfl) rfl ?_
    refine g_nil ?_
    refine g_qt ?_
    refine g_block ?_
    refine g_loop (fun j : Nat => [(0, .slice a (x :: l').length c), (3, .int .i64 (((x :: l').take j).foldl (fun n (b : List Ce) => min n b.length) x.length : Nat)), (4, .int .i64 j)])
      (fun _ => []) (fun j => j ≤ (x :: l').length) (fun j => (x :: l').length - j) 0 (Nat.zero_le _) (by (repeat (first | exact trivial | refine ⟨by rfl, ?_⟩)); done) (by repeat' (first | exact Cover.nil | exact Take.here | apply Cover.cons | apply Take.there)) ?_
    intro j hj
    refine g_seq ?_
    refine g_seq ?_
    refine g_region ?_
    refine g_pure (p_move rfl) rfl ?_
    refine g_pure (p_move rfl) rfl ?_
    refine g_pure (p_len (by rfl) rfl) rfl ?_
    refine g_pure (p_lss rfl rfl) rfl ?_
    refine g_nil ?_
    refine g_qt ?_
    refine g_ifd rfl (fun q => ?_) (fun q => ?_)
    · have hjl : j < (x :: l').length := by omega
      obtain ⟨aj, cj, ej, _⟩ := r3 j hjl
      have ej' : cs[off + (j : Int).toNat * 1]? = some (.slice aj (x :: l')[j].length cj) := ej
      have hlt := lenF_take hjl
      refine g_skip ?_
      refine g_qt ?_
      refine g_seq ?_
      refine g_block ?_
      refine g_region ?_
      refine g_pure (p_move rfl) rfl ?_
      refine g_pure (p_move rfl) rfl ?_
      refine g_pure (p_move rfl) rfl ?_
      refine g_pure (p_indexAddr rfl rfl (by omega) (fun _ => r1)) rfl ?_
      refine g_pure (p_load (by rfl) rfl (Has.ro r2) ej') rfl ?_
      refine g_pure (p_len (by rfl) rfl) rfl ?_
      refine g_pure (p_min rfl rfl) rfl ?_
      refine g_pure (p_assign rfl) rfl ?_
      refine g_nil ?_
      refine g_qb ?_
      refine g_qt ?_
      refine g_region ?_
      refine g_pure (p_move rfl) rfl ?_
      first | refine g_pure (p_addi rfl rfl (by omega)) rfl ?_ | refine g_pure (p_add rfl rfl) rfl ?_
      refine g_pure (p_assign rfl) rfl ?_
      refine g_nil ?_
      refine g_qn ?_
      rw [show min ((((x :: l').take j).foldl (fun n (b : List Ce) => min n b.length) x.length : Nat) : Int) (((x :: l')[j].length : Nat) : Int) = ((((x :: l').take (j + 1)).foldl (fun n (b : List Ce) => min n b.length) x.length : Nat) : Int) by rw [hlt]; omega]
      exact g_next (j + 1) (by (repeat (first | exact trivial | refine ⟨by rfl, ?_⟩)); done) (by repeat' (first | exact Cover.nil | exact Take.here | apply Cover.cons | apply Take.there)) (by omega) (by omega)
    · obtain rfl : j = (x :: l').length := by omega
      rw [List.take_length, lenF_all]
      refine g_exit ?_
      refine g_qt_exit ?_
      refine g_qn_exit ?_
      refine g_qb_exit ?_
      refine g_qt ?_
      refine g_seq ?_
      refine g_region ?_
      refine g_pure (p_move rfl) rfl ?_
      refine g_pure (p_assign rfl) rfl ?_
      refine g_nil ?_
      refine g_qt ?_
      refine g_ret ?_
      exact g_post (rs := [.tmp 2]) rfl (.tmp rfl .nil) ⟨rfl, rfl⟩ .nil

theorem joint_ok {ρ : Nat → Obj → Prop} {a : Option Addr} {c : Nat} {l : List (List Ce)} (h : SlS ρ a l) (hlen : l.length ≤ 1000000) {t : Nat} (ht : t < lenF l) (ht2 : t ≤ 1000000) :
    Con Try.prog ρ 40 #[.slice a l.length c, .int .i64 t] [] (fun v H => v = .bool (jointF l t) ∧ H = []) := by
  refine con_intro Try.func40 Try.call40 rfl Try.ntmps40 rfl (L := [(0, _), (1, _)]) rfl fun w hh => ?_
  refine g_seq ?_
  refine g_region ?_
  refine g_pure (p_assign rfl) rfl ?_
  refine g_nil ?_
  refine g_qt ?_
  refine g_seq ?_
  refine g_seq ?_
  refine g_region ?_
  refine g_pure (p_assign rfl) rfl ?_
  refine g_nil ?_
  refine g_qt ?_
  refine g_block ?_
  refine g_loop (fun j : Nat => [(0, .slice a l.length c), (1, .int .i64 t), (5, .int .i64 j)])
    (fun _ => []) (fun j => j ≤ l.length ∧ jointF (l.take j) t = true) (fun j => l.length - j) 0 ⟨Nat.zero_le _, rfl⟩ (by (repeat (first | exact trivial | refine ⟨by rfl, ?_⟩)); done) (by repeat' (first | exact Cover.nil | exact Take.here | apply Cover.cons | apply Take.there)) ?_
  rintro j ⟨hj, hall⟩
  refine g_seq ?_
  refine g_seq ?_
  refine g_region ?_
  refine g_pure (p_move rfl) rfl ?_
  refine g_pure (p_move rfl) rfl ?_
  refine g_pure (p_len (by rfl) rfl) rfl ?_
  refine g_pure (p_lss rfl rfl) rfl ?_
  refine g_nil ?_
  refine g_qt ?_
  refine g_ifd rfl (fun q => ?_) (fun q => ?_)
  · have hjl : j < l.length := by omega
    obtain ⟨b, off, cs, T, fz, r1, r2, r3⟩ := h.at (by omega)
    obtain ⟨aj, cj, ej, _, b1, o1, k1, T1, f1, h1⟩ := r3 j hjl
    have ej' : cs[off + (j : Int).toNat * 1]? = some (.slice aj l[j].length cj) := ej
    have htl : t < l[j].length := Nat.lt_of_lt_of_le ht (lenF_le _ (List.getElem_mem hjl))
    obtain ⟨l1, l2, l3⟩ := h1 (by omega)
    obtain ⟨x0, _, _⟩ := cell_at l3 htl
    have hno : thereB l[j][t] = false → jointF l t = false := fun h => all_no hjl (by rw [at0_eq htl]; exact h)
    have hgo : thereB l[j][t] = true → jointF (l.take (j + 1)) t = true := fun h => take_all _ _ _ hjl hall (by rw [at0_eq htl]; exact h)
    generalize hlk : l[j][t] = u at *
    have x0' : sub k1 (o1 + (t : Int).toNat * 2) 2 = some (encC u) := x0
    refine g_skip ?_
    refine g_qt ?_
    refine g_seq ?_
    refine g_block ?_
    refine g_seq ?_
    refine g_region ?_
    refine g_pure (p_move rfl) rfl ?_
    refine g_pure (p_move rfl) rfl ?_
    refine g_pure (p_indexAddr rfl rfl (by omega) (fun _ => r1)) rfl ?_
    refine g_pure (p_load (by rfl) rfl (Has.ro r2) ej') rfl ?_
    refine g_pure (p_move rfl) rfl ?_
    refine g_pure (p_indexAddr rfl rfl (by omega) (fun _ => l1)) rfl ?_
    refine g_pure (p_loadN (by rfl) rfl (Has.ro l2) x0') rfl ?_
    refine g_call (Hin := []) (Hr := ?hr1) (R := ?rr1) rfl rfl rfl ?hin1 ?hc1 ?hk1
    case hin1 => repeat' (first | exact Cover.nil | exact Take.here | apply Cover.cons | apply Take.there)
    case hc1 => intro ρ' hρ hR; exact dthere_ok u
    rintro _ _ ⟨rfl, rfl⟩
    refine g_pure (p_not rfl) rfl ?_
    refine g_nil ?_
    refine g_qt ?_
    refine g_if rfl (fun r => ?_) (fun r => ?_)
    · have r' : thereB u = false := by simpa using r
      refine g_seq ?_
      refine g_region ?_
      refine g_pure (p_assign rfl) rfl ?_
      refine g_nil ?_
      refine g_qt ?_
      refine g_ret ?_
      refine g_qb_ret ?_
      refine g_qt_ret ?_
      refine g_qn_ret ?_
      refine g_qb_ret ?_
      refine g_qt_ret ?_
      exact g_post (rs := [.tmp 4]) rfl (.tmp rfl .nil) ⟨by rw [hno r']; rfl, rfl⟩ .nil
    · have r' : thereB u = true := by simpa using r
      refine g_skip ?_
      refine g_qb ?_
      refine g_qt ?_
      refine g_region ?_
      refine g_pure (p_move rfl) rfl ?_
      first | refine g_pure (p_addi rfl rfl (by omega)) rfl ?_ | refine g_pure (p_add rfl rfl) rfl ?_
      refine g_pure (p_assign rfl) rfl ?_
      refine g_nil ?_
      refine g_qn ?_
      exact g_next (j + 1) (by (repeat (first | exact trivial | refine ⟨by rfl, ?_⟩)); done) (by repeat' (first | exact Cover.nil | exact Take.here | apply Cover.cons | apply Take.there)) ⟨by omega, hgo r'⟩ (by omega)
  · obtain rfl : j = l.length := by omega
    rw [List.take_length] at hall
    refine g_exit ?_
    refine g_qt_exit ?_
    refine g_qn_exit ?_
    refine g_qb_exit ?_
    refine g_qt ?_
    refine g_seq ?_
    refine g_region ?_
    refine g_pure (p_assign rfl) rfl ?_
    refine g_nil ?_
    refine g_qt ?_
    refine g_ret ?_
    exact g_post (rs := [.tmp 4]) rfl (.tmp rfl .nil) ⟨by rw [hall]; rfl, rfl⟩ .nil

theorem long_ok {ρ : Nat → Obj → Prop} {a : Option Addr} {c : Nat} {l : List (List Ce)} (h : SlS ρ a l) :
    Con Try.prog ρ 9 #[.slice a l.length c] [] (fun v H => ∃ b, v = .bool b ∧ H = [] ∧ (b = false → l.length ≤ 8 ∧ ∀ x ∈ l, x.length ≤ 300)) := by
  refine con_intro Try.func9 Try.call9 rfl Try.ntmps9 rfl (L := [(0, _)]) rfl fun w hh => ?_
  refine g_seq ?_
  refine g_region ?_
  refine g_pure (p_assign rfl) rfl ?_
  refine g_nil ?_
  refine g_qt ?_
  refine g_seq ?_
  refine g_seq ?_
  refine g_region ?_
  refine g_pure (p_move rfl) rfl ?_
  refine g_pure (p_len (by rfl) rfl) rfl ?_
  refine g_pure (p_gtr rfl rfl) rfl ?_
  refine g_nil ?_
  refine g_qt ?_
  refine g_ifd rfl (fun e => ?_) (fun e => ?_)
  · refine g_seq ?_
    refine g_region ?_
    refine g_pure (p_assign rfl) rfl ?_
    refine g_nil ?_
    refine g_qt ?_
    refine g_ret ?_
    refine g_qt_ret ?_
    exact g_post (rs := [.tmp 2]) rfl (.tmp rfl .nil) ⟨true, rfl, rfl, fun h => by cases h⟩ .nil
  · refine g_skip ?_
    refine g_qt ?_
    refine g_seq ?_
    refine g_seq ?_
    refine g_region ?_
    refine g_pure (p_assign rfl) rfl ?_
    refine g_nil ?_
    refine g_qt ?_
    refine g_block ?_
    refine g_loop (fun j : Nat => [(0, .slice a l.length c), (3, .int .i64 j)])
      (fun _ => []) (fun j => j ≤ l.length ∧ ∀ x ∈ l.take j, x.length ≤ 300) (fun j => l.length - j) 0 ⟨Nat.zero_le _, fun x h => by simp at h⟩ (by (repeat (first | exact trivial | refine ⟨by rfl, ?_⟩)); done) (by repeat' (first | exact Cover.nil | exact Take.here | apply Cover.cons | apply Take.there)) ?_
    rintro j ⟨hj, hall⟩
    refine g_seq ?_
    refine g_seq ?_
    refine g_region ?_
    refine g_pure (p_move rfl) rfl ?_
    refine g_pure (p_move rfl) rfl ?_
    refine g_pure (p_len (by rfl) rfl) rfl ?_
    refine g_pure (p_lss rfl rfl) rfl ?_
    refine g_nil ?_
    refine g_qt ?_
    refine g_ifd rfl (fun q => ?_) (fun q => ?_)
    · have hjl : j < l.length := by omega
      obtain ⟨b, off, cs, T, fz, r1, r2, r3⟩ := h.at (by omega)
      obtain ⟨aj, cj, ej, _⟩ := r3 j hjl
      have ej' : cs[off + (j : Int).toNat * 1]? = some (.slice aj l[j].length cj) := ej
      refine g_skip ?_
      refine g_qt ?_
      refine g_seq ?_
      refine g_block ?_
      refine g_seq ?_
      refine g_region ?_
      refine g_pure (p_move rfl) rfl ?_
      refine g_pure (p_move rfl) rfl ?_
      refine g_pure (p_indexAddr rfl rfl (by omega) (fun _ => r1)) rfl ?_
      refine g_pure (p_load (by rfl) rfl (Has.ro r2) ej') rfl ?_
      refine g_pure (p_len (by rfl) rfl) rfl ?_
      refine g_pure (p_gtr rfl rfl) rfl ?_
      refine g_nil ?_
      refine g_qt ?_
      refine g_ifd rfl (fun r => ?_) (fun r => ?_)
      · refine g_seq ?_
        refine g_region ?_
        refine g_pure (p_assign rfl) rfl ?_
        refine g_nil ?_
        refine g_qt ?_
        refine g_ret ?_
        refine g_qb_ret ?_
        refine g_qt_ret ?_
        refine g_qn_ret ?_
        refine g_qb_ret ?_
        refine g_qt_ret ?_
        exact g_post (rs := [.tmp 2]) rfl (.tmp rfl .nil) ⟨true, rfl, rfl, fun h => by cases h⟩ .nil
      · refine g_skip ?_
        refine g_qb ?_
        refine g_qt ?_
        refine g_region ?_
        refine g_pure (p_move rfl) rfl ?_
        first | refine g_pure (p_addi rfl rfl (by omega)) rfl ?_ | refine g_pure (p_add rfl rfl) rfl ?_
        refine g_pure (p_assign rfl) rfl ?_
        refine g_nil ?_
        refine g_qn ?_
        exact g_next (j + 1) (by (repeat (first | exact trivial | refine ⟨by rfl, ?_⟩)); done) (by repeat' (first | exact Cover.nil | exact Take.here | apply Cover.cons | apply Take.there)) ⟨by omega, all_take hjl hall (by omega)⟩ (by omega)
    · obtain rfl : j = l.length := by omega
      rw [List.take_length] at hall
      refine g_exit ?_
      refine g_qt_exit ?_
      refine g_qn_exit ?_
      refine g_qb_exit ?_
      refine g_qt ?_
      refine g_seq ?_
      refine g_region ?_
      refine g_pure (p_assign rfl) rfl ?_
      refine g_nil ?_
      refine g_qt ?_
      refine g_ret ?_
      exact g_post (rs := [.tmp 2]) rfl (.tmp rfl .nil) ⟨false, rfl, rfl, fun _ => ⟨by omega, hall⟩⟩ .nil
end Go.Proofs.Ytceecdjckhbncaa
