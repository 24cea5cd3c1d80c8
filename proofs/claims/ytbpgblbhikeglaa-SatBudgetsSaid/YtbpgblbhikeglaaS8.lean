/- Chapter 37: what follows, plain steps; all clauses examined once. Conditions: none. -/
import Derived.Test.YtbpgblbhikeglaaS7
namespace Go.Z.Sat
set_option linter.unusedVariables false
set_option linter.unusedSimpArgs false
set_option linter.unusedSectionVars false
open Go Go.Z Go.Proofs.Ytbpgblbhikeglaa

/-- what is still to be looked at: the clauses with a literal that became false at position d or later -/
def Pend (V : As) (T : List Int) (d : Nat) (c : Cl) : Prop := okc V c ∨ ∃ t, d ≤ t ∧ ∃ h : t < T.length, -T[t] ∈ c
/-- the trail says what has a value beyond the first d0 literals -/
structure Inv (n : Nat) (F : Fm) (a V : As) (T : List Int) : Prop where
  snd : Snd F a V
  cnt : T.length + cnt n V = n
  lits : ∀ l ∈ T, okL n l
  val : V = asg T
  new : ∀ i (h : i < T.length), lv (asg (T.take i)) T[i] = none

theorem Pend.mono {V : As} {T : List Int} {d : Nat} {c : Cl} {l : Int} (h : Pend V T d c) (hc : ∀ m ∈ c, m ≠ 0) (hl : l ≠ 0) (hn : lv V l = none) (hd : d ≤ T.length) : Pend (put V l) (T ++ [l]) d c := by
  rcases h with h | ⟨t, h1, h2, h3⟩
  · rcases h.put hl hn hc with h | h
    · exact .inl h
    · exact .inr ⟨T.length, hd, by simp, by simpa using h⟩
  · exact .inr ⟨t, h1, by simp; omega, by rw [List.getElem_append_left h2]; exact h3⟩

/-- one clause looked at: violated, or nothing is asked any more -/
theorem cl_step {n : Nat} {F : Fm} (hF : okF n F) {a V : As} {T : List Int} (hI : Inv n F a V T) {c : Cl} (hc : c ∈ F) :
    (clF V T c = (false, V, T) ∧ PR F a none) ∨ (∃ V' T', clF V T c = (true, V', T') ∧ Inv n F a V' T' ∧ okc V' c ∧ T.length ≤ T'.length ∧ (∀ t (h : t < T.length), ∃ h' : t < T'.length, T'[t] = T[t]) ∧ ∀ (d : Nat), d ≤ T.length → ∀ c' ∈ F, Pend V T d c' → Pend V' T' d c') := by
  have h0 : ∀ m ∈ c, m ≠ 0 := fun m hm => (hF c hc m hm).1
  rcases exam_spec V c h0 with ⟨h1, h2⟩ | ⟨l, h1, h2, h3, h4⟩ | ⟨h1, h2⟩
  · exact .inr ⟨V, T, by unfold clF; rw [h1]; rfl, hI, h2, Nat.le_refl _, fun t h => ⟨h, rfl⟩, fun d _ c' _ h => h⟩
  · have hl := hF c hc l h1
    refine .inr ⟨put V l, T ++ [l], by unfold clF; rw [h2]; simp [hl.1], ⟨hI.snd.unit hF hc h1 h3 h4, ?_, ?_, ?_, ?_⟩, okc_put_self hl.1 h1, by simp, fun t h => ⟨by simp; omega, by rw [List.getElem_append_left h]⟩, fun d hd c' hc' h => h.mono (fun m hm => (hF c' hc' m hm).1) hl.1 h3 hd⟩
    · have := cnt_put hl h3
      have := hI.cnt
      simp; omega
    · intro x hx
      rcases List.mem_append.1 hx with hx | hx
      · exact hI.lits x hx
      · rw [List.mem_singleton.1 hx]; exact hl
    · rw [hI.val]; simp [asg]
    · intro i hi
      by_cases e : i < T.length
      · rw [List.getElem_append_left e, List.take_append_of_le_length (by omega)]; exact hI.new i e
      · have : i = T.length := by simp at hi; omega
        subst this
        rw [List.take_left', List.getElem_append_right (Nat.le_refl _)]
        · simp; rw [← hI.val]; exact h3
        · rfl
  · exact .inl ⟨by unfold clF; rw [h1]; rfl, hI.snd.fail hF hc h2⟩
theorem cl_pre {V V' : As} {T T' : List Int} {c : Cl} {b : Bool} (h : clF V T c = (b, V', T')) : T <+: T' := by
  unfold clF at h
  split at h
  · cases h; exact List.prefix_refl _
  · split at h
    · cases h; exact List.prefix_refl _
    · cases h; exact List.prefix_append _ _
end Go.Z.Sat
namespace Go.Proofs.Ytbpgblbhikeglaa
open Go Go.Z Go.Z.Sat

theorem clause_at {ρ : Nat → Obj → Prop} {s : Nat} {p : Sp} {F : Fm} (hO : Ok p.n F) (hm : p.m = F.length) (hU : RSl2 ρ p.ua (usesV p.n F)) (hF : FmR ρ p.ca F) {V : As} {T : List Int} {d : Nat} (hT : T.length + cnt p.n V = p.n) {i : Nat} (hi : i < F.length)
    {b : Bool} {V' : As} {T' : List Int} (h : clF V T F[i] = (b, V', T')) :
    Con Try.prog ρ 42 #[.pointer (some ⟨s, 0, none⟩), .int .i64 i] [Sv s p V T (trues F V) d] (fun v H => v = .bool b ∧ H = [Sv s p V' T' (trues F V') d]) := by
  have := clause_ok (ρ := ρ) (s := s) hO hm hU hF V T d hT i hi
  rw [h] at this; exact this

/-- all clauses looked at once -/
theorem start_ok {ρ : Nat → Obj → Prop} {s : Nat} {p : Sp} {F : Fm} (hO : Ok p.n F) (hm : p.m = F.length) (hU : RSl2 ρ p.ua (usesV p.n F)) (hF : FmR ρ p.ca F) {a V : As} {T : List Int} {d : Nat} (hI : Inv p.n F a V T) (hd : d ≤ T.length) :
    Con Try.prog ρ 29 #[.pointer (some ⟨s, 0, none⟩)] [Sv s p V T (trues F V) d] (fun v H => ∃ V' T', H = [Sv s p V' T' (trues F V') d] ∧ Inv p.n F a V' T' ∧ T <+: T' ∧ ((v = .bool false ∧ PR F a none) ∨ (v = .bool true ∧ ∀ c ∈ F, Pend V' T' d c))) := by
  have hlen := hO.len
  refine con_intro Try.func29 Try.call29 rfl Try.ntmps29 rfl (L := [(0, _)]) rfl fun w hh => ?_
  refine g_open .here ?_
  rintro _ ⟨va, vc, ta, tc, xa, xc, rfl⟩
  refine g_seq ?_
  refine g_region ?_
  refine g_pure (p_assign rfl) rfl ?_
  refine g_nil ?_
  refine g_qt ?_
  refine g_seq ?_
  refine g_seq ?_
  refine g_region ?_
  refine g_pure (p_move rfl) rfl ?_
  refine g_pure (p_nilCheck rfl) rfl ?_
  refine g_pure (p_fieldAddr rfl) rfl ?_
  refine g_pure (p_fieldAddr rfl) rfl ?_
  refine g_pure (p_load (by rfl) rfl (by first | (apply Has.own; (repeat' (first | exact Take.here | apply Take.there)); done) | exact Has.ro (by assumption)) (by first | rfl | assumption)) rfl ?_
  refine g_pure (p_len (by rfl) rfl) rfl ?_
  refine g_pure (p_move rfl) rfl ?_
  refine g_nil ?_
  refine g_qt ?_
  refine g_block ?_
  refine sv_close (V := V) (T := T) (X := trues F V) (d := d) (by repeat' (first | exact Cover.nil | exact Take.here | apply Cover.cons | apply Take.there)) rfl rfl rfl rfl rfl rfl ?_
  rw [hm]
  refine g_loop (fun q : Nat × As × List Int => [(0, .pointer (some ⟨s, 0, none⟩)), (9, .int .i64 F.length), (10, .int .i64 q.1)])
    (fun q => [Sv s p q.2.1 q.2.2 (trues F q.2.1) d]) (fun q => q.1 ≤ F.length ∧ Inv p.n F a q.2.1 q.2.2 ∧ T <+: q.2.2 ∧ ∀ j, j < q.1 → ∀ h : j < F.length, Pend q.2.1 q.2.2 d F[j]) (fun q => F.length - q.1) (0, V, T) ⟨Nat.zero_le _, hI, List.prefix_refl _, fun j h => absurd h (Nat.not_lt_zero j)⟩ (by repeat (first | exact trivial | refine ⟨by rfl, ?_⟩)) (by repeat' (first | exact Cover.nil | exact Take.here | apply Cover.cons | apply Take.there)) ?_
  rintro ⟨i, V1, T1⟩ ⟨hi, hI1, hpre, hP⟩
  dsimp only at hi hI1 hpre hP ⊢
  have hd1 : d ≤ T1.length := Nat.le_trans hd hpre.length_le
  refine g_seq ?_
  refine g_region ?_
  refine g_pure (p_lss rfl rfl) rfl ?_
  refine g_nil ?_
  refine g_qt ?_
  refine g_seq ?_
  refine g_ifd rfl (fun q => ?_) (fun q => ?_)
  · have hil : i < F.length := by omega
    refine g_skip ?_
    refine g_qt ?_
    refine g_seq ?_
    refine g_block ?_
    refine g_seq ?_
    refine g_region ?_
    refine g_pure (p_move rfl) rfl ?_
    refine g_pure (p_assign rfl) rfl ?_
    refine g_nil ?_
    refine g_qt ?_
    refine g_seq ?_
    refine g_region ?_
    refine g_pure (p_move rfl) rfl ?_
    refine g_pure (p_move rfl) rfl ?_
    rcases cl_step hO.lits hI1 (List.getElem_mem hil) with ⟨h1, h2⟩ | ⟨V2, T2, h1, h2, h3, h4, h5, h6⟩
    · refine g_call (Hin := [Sv s p V1 T1 (trues F V1) d]) (Hr := ?hr1) (R := ?rr1) rfl rfl rfl ?hin1 ?hc1 ?hk1
      case hin1 => repeat' (first | exact Cover.nil | exact Take.here | apply Cover.cons | apply Take.there)
      case hc1 => intro ρ' hρ hR; exact clause_at (d := d) hO hm (hU.mono hρ) (hF.mono hρ) hI1.cnt hil h1
      rintro _ _ ⟨rfl, rfl⟩
      refine g_pure (p_not rfl) rfl ?_
      refine g_nil ?_
      refine g_qt ?_
      refine g_ift rfl ?_
      refine g_seq ?_
      refine g_region ?_
      refine g_pure (p_assign rfl) rfl ?_
      refine g_nil ?_
      refine g_qt ?_
      refine g_ret ?_
      refine g_qb_ret ?_
      refine g_qt_ret ?_
      refine g_qn_ret ?_
      refine g_qb_ret ?_
      refine g_qt_ret ?_
      exact g_post (rs := [.tmp 2]) rfl (.tmp rfl .nil) ⟨V1, T1, rfl, hI1, hpre, .inl ⟨rfl, h2⟩⟩ (by repeat' (first | exact Cover.nil | exact Take.here | apply Cover.cons | apply Take.there))
    · refine g_call (Hin := [Sv s p V1 T1 (trues F V1) d]) (Hr := ?hr2) (R := ?rr2) rfl rfl rfl ?hin2 ?hc2 ?hk2
      case hin2 => repeat' (first | exact Cover.nil | exact Take.here | apply Cover.cons | apply Take.there)
      case hc2 => intro ρ' hρ hR; exact clause_at (d := d) hO hm (hU.mono hρ) (hF.mono hρ) hI1.cnt hil h1
      rintro _ _ ⟨rfl, rfl⟩
      refine g_pure (p_not rfl) rfl ?_
      refine g_nil ?_
      refine g_qt ?_
      refine g_iff rfl ?_
      refine g_skip ?_
      refine g_qb ?_
      refine g_qt ?_
      refine g_region ?_
      first | refine g_pure (p_addi rfl rfl (by omega)) rfl ?_ | refine g_pure (p_add rfl rfl) rfl ?_
      refine g_pure (p_move rfl) rfl ?_
      refine g_nil ?_
      refine g_qn ?_
      refine g_next (i + 1, V2, T2) (by repeat (first | exact trivial | refine ⟨by rfl, ?_⟩)) (by repeat' (first | exact Cover.nil | exact Take.here | apply Cover.cons | apply Take.there)) ⟨by dsimp only; omega, h2, hpre.trans (cl_pre h1), fun j hj hjl => ?_⟩ (by dsimp only; omega)
      dsimp only at hj ⊢
      by_cases e : j = i
      · subst e; exact .inl h3
      · exact h6 d hd1 _ (List.getElem_mem hjl) (hP j (by omega) hjl)
  · have hie : i = F.length := by omega
    refine g_exit ?_
    refine g_qt_exit ?_
    refine g_qn_exit ?_
    refine g_qb_exit ?_
    refine g_qt ?_
    refine g_seq ?_
    refine g_region ?_
    refine g_pure (p_assign rfl) rfl ?_
    refine g_nil ?_
    refine g_qt ?_
    refine g_ret ?_
    refine g_post (rs := [.tmp 2]) rfl (.tmp rfl .nil) ⟨V1, T1, rfl, hI1, hpre, .inr ⟨rfl, fun c hc => ?_⟩⟩ (by repeat' (first | exact Cover.nil | exact Take.here | apply Cover.cons | apply Take.there))
    obtain ⟨j, hj, rfl⟩ := List.getElem_of_mem hc
    exact hP j (by omega) hj
end Go.Proofs.Ytbpgblbhikeglaa
