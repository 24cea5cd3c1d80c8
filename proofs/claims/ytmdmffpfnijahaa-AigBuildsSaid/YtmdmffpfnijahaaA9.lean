/- Chapter 35, the document's side: inputs, gates. Conditions: none. -/
import Derived.Test.YtmdmffpfnijahaaA8
namespace Go.Proofs.Ytmdmffpfnijahaa
set_option linter.unusedVariables false
set_option linter.unusedSimpArgs false
set_option linter.unusedSectionVars false
open Go Go.Z Go.Z.Aig

theorem ins_snoc {S : St} {k : Nat} (hk : k < S.length) : ins 0 (S.take (k + 1)) = ins 0 (S.take k) ++ (if S[k].2.2 then [2 * (k : Int)] else []) := by
  rw [List.take_add_one, List.getElem?_eq_getElem hk, Option.toList_some, ins_append]
  congr 1
  have : (S.take k).length = k := by rw [List.length_take]; omega
  simp only [ins, this, Nat.zero_add]

theorem ins_one {S : St} (h : WF S) : ins 0 (S.take 1) = [] := by
  have := h.hd
  cases S with
  | nil => rfl
  | cons g l => simp at this; subst this; rfl

theorem rinputs_ok {ρ : Nat → Obj → Prop} (m : Nat) (S : St) (hw : WF S) (hg : Ro ρ (Rf m S)) : Con Try.prog ρ 19 #[.pointer (some ⟨m, 0, none⟩)] []
    (fun v H => ∃ a c, v = .slice a (ins 0 S).length c ∧ H = [OwnSl 35 1 a (ins 0 S).length c ((ins 0 S).map encI)]) := by
  obtain ⟨aa, ca, ab, cb, ai, ci, hp, _, _, hi, h0, hl⟩ := rf_ro hg
  obtain ⟨_, bi, oi, ki, Ti, fi, hi'⟩ := hi
  obtain ⟨i1, i2, i3⟩ := hi' h0
  refine con_intro Try.func19 Try.call19 rfl Try.ntmps19 rfl (L := [(0, _)]) rfl fun w hh => ?_
  refine g_ownnil (e := 35) (size := 1) ?_
  refine g_seq ?_
  refine g_region ?_
  refine g_pure (p_assign rfl) rfl ?_
  refine g_nil ?_
  refine g_qt ?_
  refine g_seq ?_
  refine g_region ?_
  refine g_pure (p_assign rfl) rfl ?_
  refine g_nil ?_
  refine g_qt ?_
  refine g_seq ?_
  refine g_seq ?_
  refine g_region ?_
  refine g_pure (p_assign rfl) rfl ?_
  refine g_nil ?_
  refine g_qt ?_
  refine g_block ?_
  refine g_loop (fun s : Nat × Option Addr × Nat × List Int => [(0, .pointer (some ⟨m, 0, none⟩)), (3, .slice s.2.1 s.2.2.2.length s.2.2.1), (4, .int .i64 s.1)])
    (fun s => [OwnSl 35 1 s.2.1 s.2.2.2.length s.2.2.1 (s.2.2.2.map encI)]) (fun s => s.1 ≤ S.length ∧ s.2.2.2 = ins 0 (S.take s.1)) (fun s => S.length - s.1) (1, none, 0, []) ⟨h0, (ins_one hw).symm⟩ (by repeat (first | exact trivial | refine ⟨by rfl, ?_⟩)) (by repeat' (first | exact Cover.nil | exact Take.here | apply Cover.cons | apply Take.there)) ?_
  rintro ⟨k, a, c, l⟩ ⟨hk, hll⟩
  dsimp only at hk hll ⊢
  have hlen : l.length ≤ S.length := by rw [hll]; have := ins_le (S.take k) 0; rw [List.length_take] at this; omega
  refine g_seq ?_
  refine g_seq ?_
  refine g_region ?_
  refine g_pure (p_move rfl) rfl ?_
  refine g_pure (p_move rfl) rfl ?_
  refine g_pure (p_nilCheck rfl) rfl ?_
  refine g_pure (p_fieldAddr rfl) rfl ?_
  refine g_pure (p_load (by rfl) rfl (by first | (apply Has.own; (repeat' (first | exact Take.here | apply Take.there)); done) | exact Has.ro (by assumption)) (by first | rfl | assumption)) rfl ?_
  refine g_pure (p_len (by rfl) rfl) rfl ?_
  refine g_pure (p_lss rfl rfl) rfl ?_
  refine g_nil ?_
  refine g_qt ?_
  refine g_ifd rfl (fun h => ?_) (fun h => ?_)
  · have hkl : k < S.length := by simp at h; omega
    have hs := ins_snoc hkl
    obtain ⟨⟨x, y, z⟩, hq⟩ : ∃ q, S[k] = q := ⟨_, rfl⟩
    have hsk : S[k]? = some (x, y, z) := by rw [List.getElem?_eq_getElem hkl, hq]
    rw [hq, ← hll] at hs
    have xi : ki[oi + (k : Int).toNat * 1]? = some (encB z) := i3 _ _ (by simp [hsk])
    refine g_skip ?_
    refine g_qt ?_
    refine g_seq ?_
    refine g_block ?_
    refine g_seq ?_
    refine g_region ?_
    refine g_pure (p_move rfl) rfl ?_
    refine g_pure (p_nilCheck rfl) rfl ?_
    refine g_pure (p_fieldAddr rfl) rfl ?_
    refine g_pure (p_load (by rfl) rfl (by first | (apply Has.own; (repeat' (first | exact Take.here | apply Take.there)); done) | exact Has.ro (by assumption)) (by first | rfl | assumption)) rfl ?_
    refine g_pure (p_move rfl) rfl ?_
    refine g_pure (p_indexAddr rfl rfl (by simp at h ⊢; omega) (fun _ => i1)) rfl ?_
    refine g_pure (p_load (by rfl) rfl (Has.ro i2) xi) rfl ?_
    refine g_nil ?_
    refine g_qt ?_
    cases z with
    | true =>
      refine g_ift rfl ?_
      refine g_region ?_
      refine g_pure (p_move rfl) rfl ?_
      refine g_pure (p_move rfl) rfl ?_
      refine g_pure (p_muli rfl rfl (by omega)) rfl ?_
      refine g_eff (e_bs (xs := [.tmp 23]) rfl rfl rfl (by rfl) (by rfl) rfl (by rfl)) rfl (fun _ _ => ?_)
      rintro ⟨b24, rfl, rfl⟩
      refine g_eff (e_appendO (by rfl) (by rfl) rfl rfl (by first | (apply Has.own; (repeat' (first | exact Take.here | apply Take.there)); done) | exact Has.ro (by assumption)) (by rfl) (by rfl) (by repeat' (first | exact Take.here | apply Take.there)) (by omega) (by first | omega | (dsimp only; omega) | (simp <;> omega)) (by omega)) rfl (fun _ _ => ?_)
      rintro ⟨a25, c25, rfl, rfl⟩
      refine g_pure (p_assign rfl) rfl ?_
      refine g_nil ?_
      refine g_qb ?_
      refine g_qt ?_
      refine g_region ?_
      refine g_pure (p_move rfl) rfl ?_
      first | refine g_pure (p_addi rfl rfl (by omega)) rfl ?_ | refine g_pure (p_add rfl rfl) rfl ?_
      refine g_pure (p_assign rfl) rfl ?_
      refine g_nil ?_
      refine g_qn ?_
      have e : l.map encI ++ [Value.int .i64 (2 * (k : Int))] = (l ++ [2 * (k : Int)]).map encI := by simp [encI]
      have e2 : l.length + 1 = (l ++ [2 * (k : Int)]).length := by simp
      rw [e, e2]
      exact g_next (k + 1, _, _, l ++ [2 * (k : Int)]) (by repeat (first | exact trivial | refine ⟨by rfl, ?_⟩)) (by repeat' (first | exact Cover.nil | exact Take.here | apply Cover.cons | apply Take.there)) ⟨by dsimp only; omega, hs.symm⟩ (by dsimp only; omega)
    | false =>
      refine g_iff rfl ?_
      refine g_skip ?_
      refine g_qb ?_
      refine g_qt ?_
      refine g_region ?_
      refine g_pure (p_move rfl) rfl ?_
      first | refine g_pure (p_addi rfl rfl (by omega)) rfl ?_ | refine g_pure (p_add rfl rfl) rfl ?_
      refine g_pure (p_assign rfl) rfl ?_
      refine g_nil ?_
      refine g_qn ?_
      rw [if_neg (by simp), List.append_nil] at hs
      exact g_next (k + 1, a, c, l) (by repeat (first | exact trivial | refine ⟨by rfl, ?_⟩)) (by repeat' (first | exact Cover.nil | exact Take.here | apply Cover.cons | apply Take.there)) ⟨by dsimp only; omega, hs.symm⟩ (by dsimp only; omega)
  · have hke : k = S.length := by simp at h; omega
    rw [hke, List.take_length] at hll
    subst hll
    refine g_exit ?_
    refine g_qt_exit ?_
    refine g_qn_exit ?_
    refine g_qb_exit ?_
    refine g_qt ?_
    refine g_seq ?_
    refine g_region ?_
    refine g_pure (p_move rfl) rfl ?_
    refine g_pure (p_assign rfl) rfl ?_
    refine g_nil ?_
    refine g_qt ?_
    refine g_ret ?_
    exact g_post (rs := [.tmp 2]) rfl (.tmp rfl .nil) ⟨a, c, rfl, rfl⟩ (by repeat' (first | exact Cover.nil | exact Take.here | apply Cover.cons | apply Take.there))

theorem rgate_ok {ρ : Nat → Obj → Prop} (m : Nat) (S : St) (v : Int) (hv0 : I64 v) (hg : Ro ρ (Rf m S)) :
    Con Try.prog ρ 24 #[.pointer (some ⟨m, 0, none⟩), .int .i64 v] [] (fun u H => u = .tuple #[.int .i64 (gate1 S v).1, .int .i64 (gate1 S v).2.1, .bool (gate1 S v).2.2] ∧ H = []) := by
  obtain ⟨aa, ca, ab, cb, ai, ci, hp, hA, hB, hi, h0, hl⟩ := rf_ro hg
  obtain ⟨_, ba, oa, ka, Ta, fa, hA'⟩ := hA
  obtain ⟨_, bb, ob, kb, Tb, fb, hB'⟩ := hB
  obtain ⟨_, bi, oi, ki, Ti, fi, hi'⟩ := hi
  obtain ⟨i1, i2, i3⟩ := hi' h0
  obtain ⟨j1, j2, j3⟩ := hA' h0
  obtain ⟨k1, k2, k3⟩ := hB' h0
  refine con_intro Try.func24 Try.call24 rfl Try.ntmps24 rfl (L := [(0, _), (1, _)]) rfl fun w hh => ?_
  refine g_seq ?_
  refine g_region ?_
  refine g_pure (p_assign rfl) rfl ?_
  refine g_pure (p_assign rfl) rfl ?_
  refine g_pure (p_assign rfl) rfl ?_
  refine g_nil ?_
  refine g_qt ?_
  refine g_seq ?_
  refine g_seq ?_
  refine g_region ?_
  refine g_pure (p_move rfl) rfl ?_
  refine g_pure (p_lss rfl rfl) rfl ?_
  refine g_pure (p_move rfl) rfl ?_
  refine g_splitd rfl rfl (fun h1 => ?_) (fun h1 => ?_)
  · refine g_no rfl rfl rfl rfl ?_
    refine g_no rfl rfl rfl rfl ?_
    refine g_no rfl rfl rfl rfl ?_
    refine g_no rfl rfl rfl rfl ?_
    refine g_no rfl rfl rfl rfl ?_
    refine g_no rfl rfl rfl rfl ?_
    refine g_no rfl rfl rfl rfl ?_
    first | refine g_pure (p_pickt rfl rfl) rfl ?_ | refine g_pure (p_pickf rfl rfl) rfl ?_
    refine g_pure (p_move rfl) rfl ?_
    refine g_no rfl rfl rfl rfl ?_
    refine g_no rfl rfl rfl rfl ?_
    refine g_no rfl rfl rfl rfl ?_
    refine g_no rfl rfl rfl rfl ?_
    refine g_no rfl rfl rfl rfl ?_
    refine g_no rfl rfl rfl rfl ?_
    refine g_no rfl rfl rfl rfl ?_
    first | refine g_pure (p_pickt rfl rfl) rfl ?_ | refine g_pure (p_pickf rfl rfl) rfl ?_
    refine g_nil ?_
    refine g_qt ?_
    refine g_ift rfl ?_
    refine g_seq ?_
    refine g_region ?_
    refine g_pure (p_assign rfl) rfl ?_
    refine g_pure (p_assign rfl) rfl ?_
    refine g_pure (p_assign rfl) rfl ?_
    refine g_nil ?_
    refine g_qt ?_
    refine g_ret ?_
    refine g_qt_ret ?_
    have e : gate1 S v = (0, 0, false) := by unfold gate1; rw [if_neg (by omega)]
    exact g_post (rs := [.tmp 4, .tmp 5, .tmp 6]) rfl (.tmp rfl (.tmp rfl (.tmp rfl .nil))) ⟨by rw [e]; rfl, rfl⟩ .nil
  · refine g_yes rfl rfl ?_
    refine g_pure (p_move rfl) rfl ?_
    refine g_yes rfl rfl ?_
    refine g_pure (p_move rfl) rfl ?_
    refine g_yes rfl rfl ?_
    refine g_pure (p_nilCheck rfl) rfl ?_
    refine g_yes rfl rfl ?_
    refine g_pure (p_fieldAddr rfl) rfl ?_
    refine g_yes rfl rfl ?_
    refine g_pure (p_load (by rfl) rfl (by first | (apply Has.own; (repeat' (first | exact Take.here | apply Take.there)); done) | exact Has.ro (by assumption)) (by first | rfl | assumption)) rfl ?_
    refine g_yes rfl rfl ?_
    refine g_pure (p_len (by rfl) rfl) rfl ?_
    refine g_yes rfl rfl ?_
    refine g_pure (p_geq rfl rfl) rfl ?_
    first | refine g_pure (p_pickt rfl rfl) rfl ?_ | refine g_pure (p_pickf rfl rfl) rfl ?_
    refine g_pure (p_move rfl) rfl ?_
    refine g_splitd rfl rfl (fun h2 => ?_) (fun h2 => ?_)
    · refine g_no rfl rfl rfl rfl ?_
      refine g_no rfl rfl rfl rfl ?_
      refine g_no rfl rfl rfl rfl ?_
      refine g_no rfl rfl rfl rfl ?_
      refine g_no rfl rfl rfl rfl ?_
      refine g_no rfl rfl rfl rfl ?_
      refine g_no rfl rfl rfl rfl ?_
      first | refine g_pure (p_pickt rfl rfl) rfl ?_ | refine g_pure (p_pickf rfl rfl) rfl ?_
      refine g_nil ?_
      refine g_qt ?_
      refine g_ift rfl ?_
      refine g_seq ?_
      refine g_region ?_
      refine g_pure (p_assign rfl) rfl ?_
      refine g_pure (p_assign rfl) rfl ?_
      refine g_pure (p_assign rfl) rfl ?_
      refine g_nil ?_
      refine g_qt ?_
      refine g_ret ?_
      refine g_qt_ret ?_
      have e : gate1 S v = (0, 0, false) := by
        unfold gate1
        have : S[v.toNat]? = none := List.getElem?_eq_none (by omega)
        simp [this]
      exact g_post (rs := [.tmp 4, .tmp 5, .tmp 6]) rfl (.tmp rfl (.tmp rfl (.tmp rfl .nil))) ⟨by rw [e]; rfl, rfl⟩ .nil
    · have hvl : v.toNat < S.length := by omega
      obtain ⟨⟨x, y, z⟩, hq⟩ : ∃ q, S[v.toNat] = q := ⟨_, rfl⟩
      have hsv : S[v.toNat]? = some (x, y, z) := by rw [List.getElem?_eq_getElem hvl, hq]
      have xa : ka[oa + v.toNat * 1]? = some (encI x) := j3 _ _ (by simp [hsv])
      have xb : kb[ob + v.toNat * 1]? = some (encI y) := k3 _ _ (by simp [hsv])
      have xi : ki[oi + v.toNat * 1]? = some (encB z) := i3 _ _ (by simp [hsv])
      refine g_yes rfl rfl ?_
      refine g_pure (p_move rfl) rfl ?_
      refine g_yes rfl rfl ?_
      refine g_pure (p_nilCheck rfl) rfl ?_
      refine g_yes rfl rfl ?_
      refine g_pure (p_fieldAddr rfl) rfl ?_
      refine g_yes rfl rfl ?_
      refine g_pure (p_load (by rfl) rfl (by first | (apply Has.own; (repeat' (first | exact Take.here | apply Take.there)); done) | exact Has.ro (by assumption)) (by first | rfl | assumption)) rfl ?_
      refine g_yes rfl rfl ?_
      refine g_pure (p_move rfl) rfl ?_
      refine g_yes rfl rfl ?_
      refine g_pure (p_indexAddr rfl rfl (by omega) (fun _ => i1)) rfl ?_
      refine g_yes rfl rfl ?_
      refine g_pure (p_load (by rfl) rfl (Has.ro i2) xi) rfl ?_
      first | refine g_pure (p_pickt rfl rfl) rfl ?_ | refine g_pure (p_pickf rfl rfl) rfl ?_
      refine g_nil ?_
      refine g_qt ?_
      have e0 : gate1 S v = (if z then (0, 0, false) else (x, y, true)) := by
        unfold gate1; rw [if_pos (by omega), hsv]; cases z <;> rfl
      cases z with
      | true =>
        refine g_ift rfl ?_
        refine g_seq ?_
        refine g_region ?_
        refine g_pure (p_assign rfl) rfl ?_
        refine g_pure (p_assign rfl) rfl ?_
        refine g_pure (p_assign rfl) rfl ?_
        refine g_nil ?_
        refine g_qt ?_
        refine g_ret ?_
        refine g_qt_ret ?_
        exact g_post (rs := [.tmp 4, .tmp 5, .tmp 6]) rfl (.tmp rfl (.tmp rfl (.tmp rfl .nil))) ⟨by rw [e0]; rfl, rfl⟩ .nil
      | false =>
        refine g_iff rfl ?_
        refine g_skip ?_
        refine g_qt ?_
        refine g_seq ?_
        refine m_begin0 [(0, 0), (1, 0), (2, 0), (3, 1), (4, 0), (5, 0), (6, 1), (7, 0), (8, 0), (9, 0), (10, 1), (11, 0), (12, 0), (13, 1), (14, 0), (15, 0), (16, 0)] (by kernel_rfl) (by kernel_rfl) ?_
        refine m_float0 rfl (fun _ _ => p_move rfl) rfl ?_
        refine m_float0 rfl (fun _ _ => p_nilCheck rfl) rfl ?_
        refine m_float0 rfl (fun _ _ => p_fieldAddr rfl) rfl ?_
        refine m_float rfl (p_load (by rfl) rfl (by first | (apply Has.own; (repeat' (first | exact Take.here | apply Take.there)); done) | exact Has.ro (by assumption)) (by first | rfl | assumption)) rfl ?_
        refine m_float0 rfl (fun _ _ => p_move rfl) rfl ?_
        refine m_float0 rfl (fun _ _ => p_indexAddr rfl rfl (by omega) (fun _ => j1)) rfl ?_
        refine m_float rfl (p_load (by rfl) rfl (Has.ro j2) xa) rfl ?_
        refine m_float0 rfl (fun _ _ => p_move rfl) rfl ?_
        refine m_float0 rfl (fun _ _ => p_nilCheck rfl) rfl ?_
        refine m_float0 rfl (fun _ _ => p_fieldAddr rfl) rfl ?_
        refine m_float rfl (p_load (by rfl) rfl (by first | (apply Has.own; (repeat' (first | exact Take.here | apply Take.there)); done) | exact Has.ro (by assumption)) (by first | rfl | assumption)) rfl ?_
        refine m_float0 rfl (fun _ _ => p_move rfl) rfl ?_
        refine m_float0 rfl (fun _ _ => p_indexAddr rfl rfl (by omega) (fun _ => k1)) rfl ?_
        refine m_float rfl (p_load (by rfl) rfl (Has.ro k2) xb) rfl ?_
        refine m_float0 rfl (fun _ _ => p_assign rfl) rfl ?_
        refine m_float0 rfl (fun _ _ => p_assign rfl) rfl ?_
        refine m_float0 rfl (fun _ _ => p_assign rfl) rfl ?_
        refine m_nil ?_
        refine g_qt ?_
        refine g_ret ?_
        exact g_post (rs := [.tmp 4, .tmp 5, .tmp 6]) rfl (.tmp rfl (.tmp rfl (.tmp rfl .nil))) ⟨by rw [e0]; rfl, rfl⟩ .nil
end Go.Proofs.Ytmdmffpfnijahaa
