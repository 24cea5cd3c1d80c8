/- Chapter 05: enumerations in memory, sizes of types. Conditions: none. -/
import Derived.Test.YtkebblmmgcgjkaaC3
namespace Go.Z.Val
set_option maxRecDepth 8000
set_option linter.unusedVariables false
set_option linter.unusedSimpArgs false
set_option linter.unusedSectionVars false
open Go Go.Z
/-- an enumeration: its name, its tags' slice and the tags -/
abbrev En := ByteArray × Option Addr × Nat × List ByteArray
def encTx (s : ByteArray) : Value := .string s
def encE (e : En) : List Value := [.string e.1, .slice e.2.1 e.2.2.2.length e.2.2.1]
theorem encE_len (e : En) : (encE e).length = 2 := rfl
def EnOk (ρ : Nat → Obj → Prop) (e : En) : Prop := RSl ρ 1 e.2.1 e.2.2.2.length (e.2.2.2.map encTx) ∧ e.1.size ≤ maxLen ∧ (∀ s ∈ e.2.2.2, s.size ≤ maxLen) ∧ e.2.2.2.length ≤ maxLen
def EnR (ρ : Nat → Obj → Prop) (a : Option Addr) (l : List En) : Prop := RSl ρ 2 a l.length (l.flatMap encE) ∧ ∀ e ∈ l, EnOk ρ e
theorem EnOk.mono {ρ ρ' : Nat → Obj → Prop} {e : En} (h : EnOk ρ e) (s : ∀ b o, ρ b o → ρ' b o) : EnOk ρ' e := ⟨h.1.mono s, h.2⟩
theorem EnR.mono {ρ ρ' : Nat → Obj → Prop} {a : Option Addr} {l : List En} (h : EnR ρ a l) (s : ∀ b o, ρ b o → ρ' b o) : EnR ρ' a l := ⟨h.1.mono s, fun e he => (h.2 e he).mono s⟩
theorem en_at {cs : List Value} {o : Nat} {l : List En} (h : ∀ j v, (l.flatMap encE)[j]? = some v → cs[o + j]? = some v) {k : Nat} (hk : k < l.length) : sub cs (o + k * 2) 2 = some (encE l[k]) ∧ cs[o + k * 2 + 0]? = some (.string l[k].1) ∧ cs[o + k * 2 + 1]? = some (.slice l[k].2.1 l[k].2.2.2.length l[k].2.2.1) := by
  have hr := rows_at encE 2 encE_len l k hk
  have h1 := sub_of (o := o) (i := k * 2) (k := 2) h (by omega) hr.2
  rw [hr.1] at h1
  have h2 := (sub_spec h1).2
  exact ⟨h1, h2 0 _ rfl, h2 1 _ rfl⟩
def noE : En := (.empty, none, 0, [])
/-- the enumeration of a type -/
def enF (l : List En) (t : Int) : En × Bool := if 3 ≤ t ∧ t - 3 < l.length then (l.getD (t - 3).toNat noE, true) else (noE, false)
/-- how many values a type has -/
def tagN (l : List En) (t : Int) : Int := if t = 1 then 2 else if t = 2 then 65536 else (enF l t).1.2.2.2.length
theorem enF_in {l : List En} {t : Int} (h : 3 ≤ t ∧ t - 3 < l.length) : enF l t = (l[(t - 3).toNat]'(by omega), true) := by
  unfold enF
  rw [if_pos h, List.getD_eq_getElem?_getD, List.getElem?_eq_getElem (by omega)]; rfl
theorem enF_out {l : List En} {t : Int} (h : ¬ (3 ≤ t ∧ t - 3 < l.length)) : enF l t = (noE, false) := by unfold enF; rw [if_neg h]
theorem enF_le {l : List En} {t : Int} (h : ∀ e ∈ l, e.2.2.2.length ≤ maxLen) : (enF l t).1.2.2.2.length ≤ maxLen := by
  by_cases h1 : 3 ≤ t ∧ t - 3 < l.length
  · rw [enF_in h1]; exact h _ (List.getElem_mem _)
  · rw [enF_out h1]; exact Nat.zero_le _
theorem tagN_in {l : List En} {t : Int} (h : ∀ e ∈ l, e.2.2.2.length ≤ maxLen) : 0 ≤ tagN l t ∧ tagN l t ≤ 9223372036854775807 := by
  have := enF_le (t := t) h
  have e : maxLen = 9223372036854775807 := rfl
  unfold tagN
  split
  · omega
  · split
    · omega
    · omega
/-- is a number a value of a type? -/
def tyHas (l : List En) (t v : Int) : Prop := if t = 2 then -32768 ≤ v ∧ v ≤ 32767 else 0 ≤ v ∧ v < tagN l t
instance (l : List En) (t v : Int) : Decidable (tyHas l t v) := by unfold tyHas; exact inferInstance
end Go.Z.Val
namespace Go.Proofs.Ytkebblmmgcgjkaa
set_option maxRecDepth 8000
set_option linter.unusedVariables false
set_option linter.unusedSimpArgs false
set_option linter.unusedSectionVars false
open Go Go.Z Go.Z.Val

theorem rd_enums {H : Type} {enc : TypeId × Value → H} {W : World} {cs : List Value} (h : Rdx enc Try.prog W 48 cs) :
    ∃ (a : Option Addr) (cap : Nat) (l : List En), cs = [.slice a l.length cap] ∧ l.length ≤ cap ∧ cap ≤ maxLen ∧ (∀ x ∈ l, EnOk (Old W) x) ∧ RSl (Old W) 2 a l.length (l.flatMap encE) := by
  refine rd_list (fun x : En => EnOk (Old W) x) encE Try.underlying48 (size := 2) (by kernel_rfl) (by decide) (fun c _ hc => ?_) h
  obtain ⟨hl, hf⟩ := rd_struct Try.underlying107 hc
  have h0 := hf 0 _ rfl
  have h1 := hf 1 _ rfl
  have hl2 : c.length = 2 := hl
  match c, hl2 with
  | [u, v], _ =>
    have h0' : Rdx enc Try.prog W 9 [u] := h0
    have h1' : Rdx enc Try.prog W 105 [v] := h1
    obtain ⟨x, e, wx⟩ := rd_string Try.underlying9 h0'
    cases e
    obtain ⟨a, cap, l, e, k1, k2, k3, k4⟩ := rd_list1 (fun s : ByteArray => s.size ≤ maxLen) encTx Try.underlying105 (by kernel_rfl) (fun c h => rd_string Try.underlying9 h) h1'
    cases e
    exact ⟨(x, a, cap, l), rfl, k4, wx, k3, Nat.le_trans k1 k2⟩

theorem enum_ok {ρ : Nat → Obj → Prop} {a : Option Addr} {c : Nat} {l : List En} (h : EnR ρ a l) (hl : l.length ≤ maxLen) (t : Int) (ht : I64 t) : Con Try.prog ρ 88 #[.slice a l.length c, .int .i64 t] [] (fun v H => v = .tuple #[.agg #[.string (enF l t).1.1, .slice (enF l t).1.2.1 (enF l t).1.2.2.2.length (enF l t).1.2.2.1], .bool (enF l t).2] ∧ H = []) := by
  obtain ⟨⟨_, bl, ol, kl, Tl, fl, hk⟩, he⟩ := h
  obtain ⟨ht1, ht2⟩ := ht
  have eM : maxLen = 9223372036854775807 := rfl
  refine con_intro Try.func88 Try.call88 rfl Try.ntmps88 rfl (L := [(0, _), (1, _)]) rfl fun w hh => ?_
  refine g_seq ?_
  refine g_region ?_
  refine g_eff (e_alloc (by rfl)) rfl (fun _ _ => ?_)
  rintro ⟨b4, rfl, rfl⟩
  refine g_pure (p_assign rfl) rfl ?_
  refine g_nil ?_
  refine g_qt ?_
  refine g_seq ?_
  refine g_seq ?_
  refine g_region ?_
  refine g_pure (p_move rfl) rfl ?_
  refine g_pure (p_lss rfl rfl) rfl ?_
  refine g_pure (p_move rfl) rfl ?_
  refine g_splitd rfl rfl (fun h1 => ?_) (fun h1 => ?_)
  · refine g_no rfl rfl rfl rfl ?_
    refine g_no rfl rfl rfl rfl ?_
    refine g_no rfl rfl rfl rfl ?_
    refine g_no rfl rfl rfl rfl ?_
    refine g_no rfl rfl rfl rfl ?_
    first | refine g_pure (p_pickt rfl rfl) rfl ?_ | refine g_pure (p_pickf rfl rfl) rfl ?_
    refine g_nil ?_
    refine g_qt ?_
    refine g_ift rfl ?_
    refine g_seq ?_
    refine g_region ?_
    refine g_pure (p_build (by rfl) rfl (by rfl)) rfl ?_
    first | refine g_eff0 (e_storeO rfl rfl (by rfl) (by rfl) (by rfl) (by repeat' (first | exact Take.here | apply Take.there)) (by rfl)) (fun _ _ => ?_) | refine g_eff0 (e_storeN rfl rfl (by rfl) (by rfl) (by rfl) (by repeat' (first | exact Take.here | apply Take.there)) (by simp)) (fun _ _ => ?_)
    rintro rfl
    refine g_pure (p_assign rfl) rfl ?_
    refine g_nil ?_
    refine g_qt ?_
    refine g_ret ?_
    refine g_qt_ret ?_
    exact g_post (rs := [.cell 4 107, .tmp 5]) rfl (Res.cellN (by rfl) rfl (Has.own (by repeat' (first | exact Take.here | apply Take.there))) (by rfl) (.tmp rfl .nil)) ⟨by rw [enF_out (by omega)]; rfl, rfl⟩ (by repeat' (first | exact Cover.nil | exact Take.here | apply Cover.cons | apply Take.there))
  · refine g_yes rfl rfl ?_
    refine g_pure (p_move rfl) rfl ?_
    refine g_yes rfl rfl ?_
    first | refine g_pure (p_subi rfl rfl (by omega)) rfl ?_ | refine g_pure (p_sub rfl rfl) rfl ?_
    refine g_yes rfl rfl ?_
    refine g_pure (p_move rfl) rfl ?_
    refine g_yes rfl rfl ?_
    refine g_pure (p_len (by rfl) rfl) rfl ?_
    refine g_yes rfl rfl ?_
    refine g_pure (p_geq rfl rfl) rfl ?_
    first | refine g_pure (p_pickt rfl rfl) rfl ?_ | refine g_pure (p_pickf rfl rfl) rfl ?_
    refine g_nil ?_
    refine g_qt ?_
    refine g_ifd rfl (fun h2 => ?_) (fun h2 => ?_)
    · refine g_seq ?_
      refine g_region ?_
      refine g_pure (p_build (by rfl) rfl (by rfl)) rfl ?_
      first | refine g_eff0 (e_storeO rfl rfl (by rfl) (by rfl) (by rfl) (by repeat' (first | exact Take.here | apply Take.there)) (by rfl)) (fun _ _ => ?_) | refine g_eff0 (e_storeN rfl rfl (by rfl) (by rfl) (by rfl) (by repeat' (first | exact Take.here | apply Take.there)) (by simp)) (fun _ _ => ?_)
      rintro rfl
      refine g_pure (p_assign rfl) rfl ?_
      refine g_nil ?_
      refine g_qt ?_
      refine g_ret ?_
      refine g_qt_ret ?_
      exact g_post (rs := [.cell 4 107, .tmp 5]) rfl (Res.cellN (by rfl) rfl (Has.own (by repeat' (first | exact Take.here | apply Take.there))) (by rfl) (.tmp rfl .nil)) ⟨by rw [enF_out (by omega)]; rfl, rfl⟩ (by repeat' (first | exact Cover.nil | exact Take.here | apply Cover.cons | apply Take.there))
    · have hin : (t - 3).toNat < l.length := by omega
      obtain ⟨l1, l2, l3⟩ := hk (by omega)
      obtain ⟨x0, _, _⟩ := en_at l3 hin
      rw [enF_in ⟨by omega, by omega⟩]
      generalize l[(t - 3).toNat] = e at x0
      obtain ⟨e1, e2, e3, e4⟩ := e
      have x0' : sub kl (ol + (t - 3).toNat * 2) 2 = some [.string e1, .slice e2 e4.length e3] := x0
      refine g_skip ?_
      refine g_qt ?_
      refine g_seq ?_
      refine g_region ?_
      refine g_pure (p_move rfl) rfl ?_
      refine g_pure (p_move rfl) rfl ?_
      first | refine g_pure (p_subi rfl rfl (by omega)) rfl ?_ | refine g_pure (p_sub rfl rfl) rfl ?_
      refine g_pure (p_indexAddr rfl rfl (by omega) (fun _ => l1)) rfl ?_
      refine g_pure (p_loadN (by rfl) rfl (Has.ro l2) x0') rfl ?_
      first | refine g_eff0 (e_storeO rfl rfl (by rfl) (by rfl) (by rfl) (by repeat' (first | exact Take.here | apply Take.there)) (by rfl)) (fun _ _ => ?_) | refine g_eff0 (e_storeN rfl rfl (by rfl) (by rfl) (by rfl) (by repeat' (first | exact Take.here | apply Take.there)) (by simp)) (fun _ _ => ?_)
      rintro rfl
      refine g_pure (p_assign rfl) rfl ?_
      refine g_nil ?_
      refine g_qt ?_
      refine g_ret ?_
      exact g_post (rs := [.cell 4 107, .tmp 5]) rfl (Res.cellN (by rfl) rfl (Has.own (by repeat' (first | exact Take.here | apply Take.there))) (by rfl) (.tmp rfl .nil)) ⟨rfl, rfl⟩ (by repeat' (first | exact Cover.nil | exact Take.here | apply Cover.cons | apply Take.there))
theorem size_ok {ρ : Nat → Obj → Prop} {a : Option Addr} {c : Nat} {l : List En} (h : EnR ρ a l) (hl : l.length ≤ maxLen) (t : Int) (ht : I64 t) : Con Try.prog ρ 58 #[.slice a l.length c, .int .i64 t] [] (fun v H => v = .int .i64 (tagN l t) ∧ H = []) := by
  refine con_intro Try.func58 Try.call58 rfl Try.ntmps58 rfl (L := [(0, _), (1, _)]) rfl fun w hh => ?_
  refine g_seq ?_
  refine g_region ?_
  refine g_pure (p_assign rfl) rfl ?_
  refine g_nil ?_
  refine g_qt ?_
  refine g_seq ?_
  refine g_seq ?_
  refine g_region ?_
  refine g_pure (p_move rfl) rfl ?_
  refine g_nil ?_
  refine g_qt ?_
  refine g_block ?_
  refine g_seq ?_
  refine g_region ?_
  refine g_pure (p_eql rfl rfl) rfl ?_
  refine g_pure (p_assign rfl) rfl ?_
  refine g_nil ?_
  refine g_qt ?_
  refine g_ifdL rfl (fun h1 => ?_) (fun h1 => ?_)
  · refine g_seq ?_
    refine g_region ?_
    refine g_pure (p_assign rfl) rfl ?_
    refine g_nil ?_
    refine g_qt ?_
    refine g_ret ?_
    refine g_qb_ret ?_
    refine g_qt_ret ?_
    exact g_post (Ho := []) (rs := [.tmp 4]) rfl (.tmp rfl .nil) ⟨by unfold tagN; first | (rw [if_pos (by omega)]; rfl) | (rw [if_neg (by omega), if_pos (by omega)]; rfl) | (rw [if_neg (by omega), if_neg (by omega)]; rfl), rfl⟩ (by repeat' (first | exact Cover.nil | exact Take.here | apply Cover.cons | apply Take.there))
  · refine g_seq ?_
    refine g_region ?_
    refine g_pure (p_eql rfl rfl) rfl ?_
    refine g_pure (p_assign rfl) rfl ?_
    refine g_nil ?_
    refine g_qt ?_
    refine g_ifdL rfl (fun h2 => ?_) (fun h2 => ?_)
    · refine g_seq ?_
      refine g_region ?_
      refine g_pure (p_assign rfl) rfl ?_
      refine g_nil ?_
      refine g_qt ?_
      refine g_ret ?_
      refine g_qb_ret ?_
      refine g_qt_ret ?_
      exact g_post (Ho := []) (rs := [.tmp 4]) rfl (.tmp rfl .nil) ⟨by unfold tagN; first | (rw [if_pos (by omega)]; rfl) | (rw [if_neg (by omega), if_pos (by omega)]; rfl) | (rw [if_neg (by omega), if_neg (by omega)]; rfl), rfl⟩ (by repeat' (first | exact Cover.nil | exact Take.here | apply Cover.cons | apply Take.there))
    · refine g_skip ?_
      refine g_qb ?_
      refine g_qt ?_
      refine g_seq ?_
      refine g_region ?_
      refine g_pure (p_move rfl) rfl ?_
      refine g_pure (p_move rfl) rfl ?_
      refine g_call (Hin := []) (Hr := ?hr1) (R := ?rr1) rfl rfl rfl ?hin1 ?hc1 ?hk1
      case hin1 => repeat' (first | exact Cover.nil | exact Take.here | apply Cover.cons | apply Take.there)
      case hc1 => intro ρ' hρ hR; exact enum_ok (h.mono hρ) hl t ht
      rintro _ _ ⟨rfl, rfl⟩
      refine g_pure (p_move rfl) rfl ?_
      refine g_pure (p_extract rfl rfl) rfl ?_
      refine g_pure (p_extract rfl rfl) rfl ?_
      refine g_eff (e_alloc (by rfl)) rfl (fun _ _ => ?_)
      rintro ⟨b5, rfl, rfl⟩
      first | refine g_eff0 (e_storeO rfl rfl (by rfl) (by rfl) (by rfl) (by repeat' (first | exact Take.here | apply Take.there)) (by rfl)) (fun _ _ => ?_) | refine g_eff0 (e_storeN rfl rfl (by rfl) (by rfl) (by rfl) (by repeat' (first | exact Take.here | apply Take.there)) (by simp)) (fun _ _ => ?_)
      rintro rfl
      refine g_pure (p_assign rfl) rfl ?_
      refine g_nil ?_
      refine g_qt ?_
      refine g_seq ?_
      refine g_region ?_
      refine g_pure (p_fieldAddr rfl) rfl ?_
      refine g_pure (p_load (by rfl) rfl (by first | (apply Has.own; (repeat' (first | exact Take.here | apply Take.there)); done) | exact Has.ro (by assumption)) (by first | rfl | assumption)) rfl ?_
      refine g_pure (p_len (by rfl) rfl) rfl ?_
      refine g_pure (p_assign rfl) rfl ?_
      refine g_nil ?_
      refine g_qt ?_
      refine g_ret ?_
      exact g_post (Ho := []) (rs := [.tmp 4]) rfl (.tmp rfl .nil) ⟨by unfold tagN; first | (rw [if_pos (by omega)]; rfl) | (rw [if_neg (by omega), if_pos (by omega)]; rfl) | (rw [if_neg (by omega), if_neg (by omega)]; rfl), rfl⟩ (by repeat' (first | exact Cover.nil | exact Take.here | apply Cover.cons | apply Take.there))
theorem dsize_ok {ρ : Nat → Obj → Prop} {a : Option Addr} {c : Nat} {l : List En} (h : EnR ρ a l) (hl : l.length ≤ maxLen) (t : Int) (ht : I64 t) : Con Try.prog ρ 59 #[.slice a l.length c, .int .i64 t] [] (fun v H => v = .int .i64 (tagN l t) ∧ H = []) := by
  obtain ⟨⟨_, bl, ol, kl, Tl, fl, hk⟩, he⟩ := h
  obtain ⟨ht1, ht2⟩ := ht
  have eM : maxLen = 9223372036854775807 := rfl
  refine con_intro Try.func59 Try.call59 rfl Try.ntmps59 rfl (L := [(0, _), (1, _)]) rfl fun w hh => ?_
  refine g_seq ?_
  refine g_region ?_
  refine g_pure (p_assign rfl) rfl ?_
  refine g_nil ?_
  refine g_qt ?_
  refine g_seq ?_
  refine g_seq ?_
  refine g_region ?_
  refine g_pure (p_move rfl) rfl ?_
  refine g_pure (p_eql rfl rfl) rfl ?_
  refine g_nil ?_
  refine g_qt ?_
  refine g_ifd rfl (fun h1 => ?_) (fun h1 => ?_)
  · refine g_seq ?_
    refine g_region ?_
    refine g_pure (p_assign rfl) rfl ?_
    refine g_nil ?_
    refine g_qt ?_
    refine g_ret ?_
    refine g_qt_ret ?_
    exact g_post (Ho := []) (rs := [.tmp 4]) rfl (.tmp rfl .nil) ⟨by unfold tagN; rw [if_pos h1]; rfl, rfl⟩ (by repeat' (first | exact Cover.nil | exact Take.here | apply Cover.cons | apply Take.there))
  · refine g_skip ?_
    refine g_qt ?_
    refine g_seq ?_
    refine g_seq ?_
    refine g_region ?_
    refine g_pure (p_move rfl) rfl ?_
    refine g_pure (p_eql rfl rfl) rfl ?_
    refine g_nil ?_
    refine g_qt ?_
    refine g_ifd rfl (fun h2 => ?_) (fun h2 => ?_)
    · refine g_seq ?_
      refine g_region ?_
      refine g_pure (p_assign rfl) rfl ?_
      refine g_nil ?_
      refine g_qt ?_
      refine g_ret ?_
      refine g_qt_ret ?_
      exact g_post (Ho := []) (rs := [.tmp 4]) rfl (.tmp rfl .nil) ⟨by unfold tagN; rw [if_neg h1, if_pos h2]; rfl, rfl⟩ (by repeat' (first | exact Cover.nil | exact Take.here | apply Cover.cons | apply Take.there))
    · refine g_skip ?_
      refine g_qt ?_
      refine g_seq ?_
      refine g_seq ?_
      refine g_region ?_
      refine g_pure (p_move rfl) rfl ?_
      refine g_pure (p_lss rfl rfl) rfl ?_
      refine g_pure (p_move rfl) rfl ?_
      refine g_splitd rfl rfl (fun h3 => ?_) (fun h3 => ?_)
      · refine g_no rfl rfl rfl rfl ?_
        refine g_no rfl rfl rfl rfl ?_
        refine g_no rfl rfl rfl rfl ?_
        refine g_no rfl rfl rfl rfl ?_
        refine g_no rfl rfl rfl rfl ?_
        first | refine g_pure (p_pickt rfl rfl) rfl ?_ | refine g_pure (p_pickf rfl rfl) rfl ?_
        refine g_nil ?_
        refine g_qt ?_
        refine g_ift rfl ?_
        refine g_seq ?_
        refine g_region ?_
        refine g_pure (p_assign rfl) rfl ?_
        refine g_nil ?_
        refine g_qt ?_
        refine g_ret ?_
        refine g_qt_ret ?_
        exact g_post (Ho := []) (rs := [.tmp 4]) rfl (.tmp rfl .nil) ⟨by unfold tagN; rw [if_neg h1, if_neg h2, enF_out (by omega)]; rfl, rfl⟩ (by repeat' (first | exact Cover.nil | exact Take.here | apply Cover.cons | apply Take.there))
      · refine g_yes rfl rfl ?_
        refine g_pure (p_move rfl) rfl ?_
        refine g_yes rfl rfl ?_
        first | refine g_pure (p_subi rfl rfl (by omega)) rfl ?_ | refine g_pure (p_sub rfl rfl) rfl ?_
        refine g_yes rfl rfl ?_
        refine g_pure (p_move rfl) rfl ?_
        refine g_yes rfl rfl ?_
        refine g_pure (p_len (by rfl) rfl) rfl ?_
        refine g_yes rfl rfl ?_
        refine g_pure (p_geq rfl rfl) rfl ?_
        first | refine g_pure (p_pickt rfl rfl) rfl ?_ | refine g_pure (p_pickf rfl rfl) rfl ?_
        refine g_nil ?_
        refine g_qt ?_
        refine g_ifd rfl (fun h4 => ?_) (fun h4 => ?_)
        · refine g_seq ?_
          refine g_region ?_
          refine g_pure (p_assign rfl) rfl ?_
          refine g_nil ?_
          refine g_qt ?_
          refine g_ret ?_
          refine g_qt_ret ?_
          exact g_post (Ho := []) (rs := [.tmp 4]) rfl (.tmp rfl .nil) ⟨by unfold tagN; rw [if_neg h1, if_neg h2, enF_out (by omega)]; rfl, rfl⟩ (by repeat' (first | exact Cover.nil | exact Take.here | apply Cover.cons | apply Take.there))
        · have hin : (t - 3).toNat < l.length := by omega
          obtain ⟨l1, l2, l3⟩ := hk (by omega)
          obtain ⟨_, _, x0⟩ := en_at l3 hin
          refine g_skip ?_
          refine g_qt ?_
          refine g_seq ?_
          refine g_region ?_
          refine g_pure (p_move rfl) rfl ?_
          refine g_pure (p_move rfl) rfl ?_
          first | refine g_pure (p_subi rfl rfl (by omega)) rfl ?_ | refine g_pure (p_sub rfl rfl) rfl ?_
          refine g_pure (p_indexAddr rfl rfl (by omega) (fun _ => l1)) rfl ?_
          refine g_pure (p_fieldAddr rfl) rfl ?_
          refine g_pure (p_load (by rfl) rfl (Has.ro l2) x0) rfl ?_
          refine g_pure (p_len (by rfl) rfl) rfl ?_
          refine g_pure (p_assign rfl) rfl ?_
          refine g_nil ?_
          refine g_qt ?_
          refine g_ret ?_
          exact g_post (Ho := []) (rs := [.tmp 4]) rfl (.tmp rfl .nil) ⟨by unfold tagN; rw [if_neg h1, if_neg h2, enF_in ⟨by omega, by omega⟩]; rfl, rfl⟩ (by repeat' (first | exact Cover.nil | exact Take.here | apply Cover.cons | apply Take.there))
theorem vhas_ok {ρ : Nat → Obj → Prop} {a : Option Addr} {c : Nat} {l : List En} (h : EnR ρ a l) (hl : l.length ≤ maxLen) (t v : Int) (ht : I64 t) : Con Try.prog ρ 55 #[.slice a l.length c, .int .i64 t, .int .i64 v] [] (fun u H => u = .bool (decide (tyHas l t v)) ∧ H = []) := by
  refine con_intro Try.func55 Try.call55 rfl Try.ntmps55 rfl (L := [(0, _), (1, _), (2, _)]) rfl fun w hh => ?_
  refine g_seq ?_
  refine g_region ?_
  refine g_pure (p_assign rfl) rfl ?_
  refine g_nil ?_
  refine g_qt ?_
  refine g_seq ?_
  refine g_seq ?_
  refine g_region ?_
  refine g_pure (p_move rfl) rfl ?_
  refine g_pure (p_eql rfl rfl) rfl ?_
  refine g_nil ?_
  refine g_qt ?_
  refine g_ifdL rfl (fun h1 => ?_) (fun h1 => ?_)
  · refine g_seq ?_
    refine g_region ?_
    refine g_pure (p_move rfl) rfl ?_
    refine g_call (Hin := []) (Hr := ?hr2) (R := ?rr2) rfl rfl rfl ?hin2 ?hc2 ?hk2
    case hin2 => repeat' (first | exact Cover.nil | exact Take.here | apply Cover.cons | apply Take.there)
    case hc2 => intro ρ' hρ hR; exact in_ok _
    rintro _ _ ⟨rfl, rfl⟩
    refine g_pure (p_assign rfl) rfl ?_
    refine g_nil ?_
    refine g_qt ?_
    refine g_ret ?_
    refine g_qt_ret ?_
    exact g_post (Ho := []) (rs := [.tmp 6]) rfl (.tmp rfl .nil) ⟨by show Value.bool _ = Value.bool _; congr 1; first | (rw [eq_comm, decide_eq_false_iff_not]; unfold tyHas; first | (rw [if_pos (by omega)]; omega) | (rw [if_neg (by omega)]; omega)) | (rw [decide_eq_decide]; unfold tyHas; first | (rw [if_pos (by omega)]) | (rw [if_neg (by omega)]; omega)), rfl⟩ (by repeat' (first | exact Cover.nil | exact Take.here | apply Cover.cons | apply Take.there))
  · refine g_skip ?_
    refine g_qt ?_
    refine g_seq ?_
    refine g_region ?_
    refine g_pure (p_move rfl) rfl ?_
    refine g_pure (p_geq rfl rfl) rfl ?_
    refine g_pure (p_move rfl) rfl ?_
    refine g_splitd rfl rfl (fun h2 => ?_) (fun h2 => ?_)
    · refine g_yes rfl rfl ?_
      refine g_pure (p_move rfl) rfl ?_
      refine g_yes rfl rfl ?_
      refine g_pure (p_move rfl) rfl ?_
      refine g_yes rfl rfl ?_
      refine g_pure (p_move rfl) rfl ?_
      refine g_yes rfl rfl ?_
      refine g_call (Hin := []) (Hr := ?hr3) (R := ?rr3) rfl rfl rfl ?hin3 ?hc3 ?hk3
      case hin3 => repeat' (first | exact Cover.nil | exact Take.here | apply Cover.cons | apply Take.there)
      case hc3 => intro ρ' hρ hR; exact size_ok (h.mono hρ) hl t ht
      rintro _ _ ⟨rfl, rfl⟩
      refine g_yes rfl rfl ?_
      refine g_pure (p_lss rfl rfl) rfl ?_
      first | refine g_pure (p_pickt rfl rfl) rfl ?_ | refine g_pure (p_pickf rfl rfl) rfl ?_
      refine g_pure (p_assign rfl) rfl ?_
      refine g_nil ?_
      refine g_qt ?_
      refine g_ret ?_
      exact g_post (Ho := []) (rs := [.tmp 6]) rfl (.tmp rfl .nil) ⟨by show Value.bool _ = Value.bool _; congr 1; first | (rw [eq_comm, decide_eq_false_iff_not]; unfold tyHas; first | (rw [if_pos (by omega)]; omega) | (rw [if_neg (by omega)]; omega)) | (rw [decide_eq_decide]; unfold tyHas; first | (rw [if_pos (by omega)]) | (rw [if_neg (by omega)]; omega)), rfl⟩ (by repeat' (first | exact Cover.nil | exact Take.here | apply Cover.cons | apply Take.there))
    · refine g_no rfl rfl rfl rfl ?_
      refine g_no rfl rfl rfl rfl ?_
      refine g_no rfl rfl rfl rfl ?_
      refine g_no rfl rfl rfl rfl ?_
      refine g_no rfl rfl rfl rfl ?_
      first | refine g_pure (p_pickt rfl rfl) rfl ?_ | refine g_pure (p_pickf rfl rfl) rfl ?_
      refine g_pure (p_assign rfl) rfl ?_
      refine g_nil ?_
      refine g_qt ?_
      refine g_ret ?_
      exact g_post (Ho := []) (rs := [.tmp 6]) rfl (.tmp rfl .nil) ⟨by show Value.bool _ = Value.bool _; congr 1; first | (rw [eq_comm, decide_eq_false_iff_not]; unfold tyHas; first | (rw [if_pos (by omega)]; omega) | (rw [if_neg (by omega)]; omega)) | (rw [decide_eq_decide]; unfold tyHas; first | (rw [if_pos (by omega)]) | (rw [if_neg (by omega)]; omega)), rfl⟩ (by repeat' (first | exact Cover.nil | exact Take.here | apply Cover.cons | apply Take.there))
end Go.Proofs.Ytkebblmmgcgjkaa
