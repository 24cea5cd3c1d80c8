/- Chapter 35: Gate, Inputs. Conditions: none. -/
import Derived.Test.YtkebblmmgcgjkaaA2
namespace Go.Proofs.Ytkebblmmgcgjkaa
set_option maxRecDepth 8000
set_option linter.unusedVariables false
set_option linter.unusedSimpArgs false
set_option linter.unusedSectionVars false
open Go Go.Z Go.Z.Aig

def gate1 (S : St) (v : Int) : Int × Int × Bool :=
  match (if 1 ≤ v then S[v.toNat]? else none) with
  | some (a, b, false) => (a, b, true)
  | _ => (0, 0, false)

theorem gate_ok {ρ : Nat → Obj → Prop} (p : Nat) (S : St) (v : Int) (hv0 : I64 v) (hg : Ro ρ (Gr p S)) :
    Con Try.prog ρ 46 #[.pointer (some ⟨p, 0, none⟩), .int .i64 v] [] (fun u H => u = .tuple #[.int .i64 (gate1 S v).1, .int .i64 (gate1 S v).2.1, .bool (gate1 S v).2.2] ∧ H = []) := by
  obtain ⟨av, cv, ai, ci, mb, kn, hp, hv, hi, hm, hw, hk⟩ := gr_ro hg
  obtain ⟨b, off, cs, T, fz, hr⟩ := RSl.row encG_len hv
  have hlim := hw.lim
  refine con_intro Try.func46 Try.call46 rfl Try.ntmps46 rfl (L := [(0, _), (1, _)]) rfl fun w hh => ?_
  refine g_seq ?_
  refine g_region ?_
  refine g_pure (p_assign rfl) rfl ?_
  refine g_pure (p_assign rfl) rfl ?_
  refine g_pure (p_assign rfl) rfl ?_
  refine g_nil ?_
  refine g_qt ?_
  refine g_seq ?_
  refine g_seq ?_
  refine g_region ?_
  refine g_pure (p_move rfl) rfl ?_
  refine g_pure (p_eqnil (by rfl) rfl rfl) rfl ?_
  refine g_pure (p_move rfl) rfl ?_
  refine g_yes rfl rfl ?_
  refine g_pure (p_move rfl) rfl ?_
  refine g_yes rfl rfl ?_
  refine g_pure (p_lss rfl rfl) rfl ?_
  first | refine g_pure (p_pickt rfl rfl) rfl ?_ | refine g_pure (p_pickf rfl rfl) rfl ?_
  refine g_pure (p_move rfl) rfl ?_
  refine g_splitd rfl rfl (fun h1 => ?_) (fun h1 => ?_)
  · refine g_no rfl rfl rfl rfl ?_
    refine g_no rfl rfl rfl rfl ?_
    refine g_no rfl rfl rfl rfl ?_
    refine g_no rfl rfl rfl rfl ?_
    refine g_no rfl rfl rfl rfl ?_
    refine g_no rfl rfl rfl rfl ?_
    refine g_no rfl rfl rfl rfl ?_
    first | refine g_pure (p_pickt rfl rfl) rfl ?_ | refine g_pure (p_pickf rfl rfl) rfl ?_
    refine g_pure (p_move rfl) rfl ?_
    refine g_no rfl rfl rfl rfl ?_
    refine g_no rfl rfl rfl rfl ?_
    refine g_no rfl rfl rfl rfl ?_
    refine g_no rfl rfl rfl rfl ?_
    refine g_no rfl rfl rfl rfl ?_
    refine g_no rfl rfl rfl rfl ?_
    refine g_no rfl rfl rfl rfl ?_
    refine g_no rfl rfl rfl rfl ?_
    refine g_no rfl rfl rfl rfl ?_
    first | refine g_pure (p_pickt rfl rfl) rfl ?_ | refine g_pure (p_pickf rfl rfl) rfl ?_
    refine g_nil ?_
    refine g_qt ?_
    refine g_ift rfl ?_
    refine g_seq ?_
    refine g_region ?_
    refine g_pure (p_assign rfl) rfl ?_
    refine g_pure (p_assign rfl) rfl ?_
    refine g_pure (p_assign rfl) rfl ?_
    refine g_nil ?_
    refine g_qt ?_
    refine g_ret ?_
    refine g_qt_ret ?_
    have e : gate1 S v = (0, 0, false) := by unfold gate1; rw [if_neg (by omega)]
    exact g_post (rs := [.tmp 4, .tmp 5, .tmp 6]) rfl (.tmp rfl (.tmp rfl (.tmp rfl .nil))) ⟨by rw [e]; rfl, rfl⟩ .nil
  · refine g_yes rfl rfl ?_
    refine g_pure (p_move rfl) rfl ?_
    refine g_yes rfl rfl ?_
    refine g_pure (p_move rfl) rfl ?_
    refine g_yes rfl rfl ?_
    refine g_pure (p_nilCheck rfl) rfl ?_
    refine g_yes rfl rfl ?_
    refine g_pure (p_fieldAddr rfl) rfl ?_
    refine g_yes rfl rfl ?_
    refine g_pure (p_load (by rfl) rfl (by first | (apply Has.own; (repeat' (first | exact Take.here | apply Take.there)); done) | exact Has.ro (by assumption)) (by first | rfl | assumption)) rfl ?_
    refine g_yes rfl rfl ?_
    refine g_pure (p_len (by rfl) rfl) rfl ?_
    refine g_yes rfl rfl ?_
    refine g_pure (p_geq rfl rfl) rfl ?_
    first | refine g_pure (p_pickt rfl rfl) rfl ?_ | refine g_pure (p_pickf rfl rfl) rfl ?_
    refine g_pure (p_move rfl) rfl ?_
    refine g_splitd rfl rfl (fun h2 => ?_) (fun h2 => ?_)
    · refine g_no rfl rfl rfl rfl ?_
      refine g_no rfl rfl rfl rfl ?_
      refine g_no rfl rfl rfl rfl ?_
      refine g_no rfl rfl rfl rfl ?_
      refine g_no rfl rfl rfl rfl ?_
      refine g_no rfl rfl rfl rfl ?_
      refine g_no rfl rfl rfl rfl ?_
      refine g_no rfl rfl rfl rfl ?_
      refine g_no rfl rfl rfl rfl ?_
      first | refine g_pure (p_pickt rfl rfl) rfl ?_ | refine g_pure (p_pickf rfl rfl) rfl ?_
      refine g_nil ?_
      refine g_qt ?_
      refine g_ift rfl ?_
      refine g_seq ?_
      refine g_region ?_
      refine g_pure (p_assign rfl) rfl ?_
      refine g_pure (p_assign rfl) rfl ?_
      refine g_pure (p_assign rfl) rfl ?_
      refine g_nil ?_
      refine g_qt ?_
      refine g_ret ?_
      refine g_qt_ret ?_
      have e : gate1 S v = (0, 0, false) := by
        unfold gate1
        have : S[v.toNat]? = none := List.getElem?_eq_none (by omega)
        simp [this]
      exact g_post (rs := [.tmp 4, .tmp 5, .tmp 6]) rfl (.tmp rfl (.tmp rfl (.tmp rfl .nil))) ⟨by rw [e]; rfl, rfl⟩ .nil
    · have hvl : v.toNat < S.length := by omega
      obtain ⟨ra, rb, rc⟩ := hr (by omega)
      obtain ⟨rc1, rc2⟩ := rc v.toNat hvl
      obtain ⟨⟨x, y, z⟩, hq⟩ : ∃ q, S[v.toNat] = q := ⟨_, rfl⟩
      rw [hq] at rc1 rc2
      have hsv : S[v.toNat]? = some (x, y, z) := by rw [List.getElem?_eq_getElem hvl, hq]
      have l0 : cs[off + v.toNat * 2 + 0]? = some (.int .i64 x) := rc2 0 _ rfl
      have l1 : cs[off + v.toNat * 2 + 1]? = some (.int .i64 y) := rc2 1 _ rfl
      refine g_yes rfl rfl ?_
      refine g_pure (p_move rfl) rfl ?_
      refine g_yes rfl rfl ?_
      refine g_pure (p_nilCheck rfl) rfl ?_
      refine g_yes rfl rfl ?_
      refine g_pure (p_fieldAddr rfl) rfl ?_
      refine g_yes rfl rfl ?_
      refine g_pure (p_load (by rfl) rfl (by first | (apply Has.own; (repeat' (first | exact Take.here | apply Take.there)); done) | exact Has.ro (by assumption)) (by first | rfl | assumption)) rfl ?_
      refine g_yes rfl rfl ?_
      refine g_pure (p_move rfl) rfl ?_
      refine g_yes rfl rfl ?_
      refine g_pure (p_indexAddr rfl rfl (by omega) (fun _ => ra)) rfl ?_
      refine g_yes rfl rfl ?_
      refine g_pure (p_loadN (vs := [.int .i64 x, .int .i64 y]) (by rfl) rfl (Has.ro rb) (rc1 (by omega))) rfl ?_
      refine g_yes rfl rfl ?_
      refine g_pure (p_build (by rfl) rfl (by rfl)) rfl ?_
      refine g_yes rfl rfl ?_
      refine g_pure (p_eqagg (eqGate 9998 x y 0 0) (by kernel_rfl) rfl rfl) rfl ?_
      first | refine g_pure (p_pickt rfl rfl) rfl ?_ | refine g_pure (p_pickf rfl rfl) rfl ?_
      refine g_nil ?_
      refine g_qt ?_
      refine g_if rfl (fun h3 => ?_) (fun h3 => ?_)
      · refine g_seq ?_
        refine g_region ?_
        refine g_pure (p_assign rfl) rfl ?_
        refine g_pure (p_assign rfl) rfl ?_
        refine g_pure (p_assign rfl) rfl ?_
        refine g_nil ?_
        refine g_qt ?_
        refine g_ret ?_
        refine g_qt_ret ?_
        have e : gate1 S v = (0, 0, false) := by
          unfold gate1
          simp at h3
          by_cases hv1 : 1 ≤ v
          · rw [if_pos hv1, hsv]
            cases z with
            | true => rfl
            | false => have := hw.gate v.toNat x y (by omega) hsv; omega
          · rw [if_neg hv1]
        exact g_post (rs := [.tmp 4, .tmp 5, .tmp 6]) rfl (.tmp rfl (.tmp rfl (.tmp rfl .nil))) ⟨by rw [e]; rfl, rfl⟩ .nil
      · refine g_skip ?_
        refine g_qt ?_
        refine g_seq ?_
        refine m_begin0 (.fl 0 0 (.fl 1 0 (.fl 2 0 (.fl 3 1 (.fl 4 0 (.fl 5 0 (.fl 6 0 (.fl 7 1 (.fl 8 0 (.fl 9 0 (.fl 10 0 (.fl 11 1 (.fl 12 0 (.fl 13 0 (.fl 14 0 (.fl 15 1 (.fl 16 0 (.fl 17 0 (.fl 18 0 .done))))))))))))))))))) (by kernel_rfl) (by kernel_rfl) ?_
        refine m_float0 rfl (fun _ _ => p_move rfl) rfl ?_
        refine m_float0 rfl (fun _ _ => p_nilCheck rfl) rfl ?_
        refine m_float0 rfl (fun _ _ => p_fieldAddr rfl) rfl ?_
        refine m_float rfl (p_load (by rfl) rfl (by first | (apply Has.own; (repeat' (first | exact Take.here | apply Take.there)); done) | exact Has.ro (by assumption)) (by first | rfl | assumption)) rfl ?_
        refine m_float0 rfl (fun _ _ => p_move rfl) rfl ?_
        refine m_float0 rfl (fun _ _ => p_indexAddr rfl rfl (by omega) (fun _ => ra)) rfl ?_
        refine m_float0 rfl (fun _ _ => p_fieldAddr rfl) rfl ?_
        refine m_float rfl (p_load (by rfl) rfl (Has.ro rb) l0) rfl ?_
        refine m_float0 rfl (fun _ _ => p_move rfl) rfl ?_
        refine m_float0 rfl (fun _ _ => p_nilCheck rfl) rfl ?_
        refine m_float0 rfl (fun _ _ => p_fieldAddr rfl) rfl ?_
        refine m_float rfl (p_load (by rfl) rfl (by first | (apply Has.own; (repeat' (first | exact Take.here | apply Take.there)); done) | exact Has.ro (by assumption)) (by first | rfl | assumption)) rfl ?_
        refine m_float0 rfl (fun _ _ => p_move rfl) rfl ?_
        refine m_float0 rfl (fun _ _ => p_indexAddr rfl rfl (by omega) (fun _ => ra)) rfl ?_
        refine m_float0 rfl (fun _ _ => p_fieldAddr rfl) rfl ?_
        refine m_float rfl (p_load (by rfl) rfl (Has.ro rb) l1) rfl ?_
        refine m_float0 rfl (fun _ _ => p_assign rfl) rfl ?_
        refine m_float0 rfl (fun _ _ => p_assign rfl) rfl ?_
        refine m_float0 rfl (fun _ _ => p_assign rfl) rfl ?_
        refine m_nil ?_
        refine g_qt ?_
        refine g_ret ?_
        have e : gate1 S v = (x, y, true) := by
          unfold gate1
          have hv1 : 1 ≤ v := by
            apply Classical.byContradiction
            intro hn
            have h0 : v.toNat = 0 := by omega
            rw [h0] at hsv
            have := hw.hd
            rw [List.head?_eq_getElem?, hsv] at this
            simp at this
            obtain ⟨rfl, rfl, _⟩ := this
            simp at h3
          rw [if_pos hv1, hsv]
          cases z with
          | true => obtain ⟨rfl, rfl⟩ := hw.inp _ _ _ hsv; simp at h3
          | false => rfl
        exact g_post (rs := [.tmp 4, .tmp 5, .tmp 6]) rfl (.tmp rfl (.tmp rfl (.tmp rfl .nil))) ⟨by rw [e]; rfl, rfl⟩ .nil

theorem clone_ok {ρ : Nat → Obj → Prop} (al : Option Addr) (cl : Nat) (ls : List Int) (hl : RSl ρ 1 al ls.length (ls.map encI)) (hlen : ls.length ≤ 10000000000) :
    Con Try.prog ρ 133 #[.slice al ls.length cl] [] (fun v H => ∃ a c, v = .slice a ls.length c ∧ H = [OwnSl 27 1 a ls.length c (ls.map encI)]) := by
  obtain ⟨_, b, off, cs, T, fz, hr⟩ := hl
  refine con_intro Try.func133 Try.call133 rfl Try.ntmps133 rfl (L := [(0, _)]) rfl fun w hh => ?_
  refine g_seq ?_
  refine g_region ?_
  refine g_pure (p_assign rfl) rfl ?_
  refine g_nil ?_
  refine g_qt ?_
  refine g_seq ?_
  refine g_seq ?_
  refine g_region ?_
  refine g_pure (p_move rfl) rfl ?_
  refine g_pure (p_eqslnil (by rfl) rfl rfl) rfl ?_
  refine g_nil ?_
  refine g_qt ?_
  cases al with
  | none =>
    refine g_ift rfl ?_
    refine g_seq ?_
    refine g_region ?_
    refine g_pure (p_assign rfl) rfl ?_
    refine g_nil ?_
    refine g_qt ?_
    refine g_ret ?_
    refine g_qt_ret ?_
    have h0 : ls = [] := by
      cases ls with
      | nil => rfl
      | cons x l => have := (hr (by simp)).1; cases this
    subst h0
    refine g_ownnil (e := 27) (size := 1) ?_
    exact g_post (rs := [.tmp 2]) rfl (.tmp rfl .nil) ⟨none, 0, rfl, rfl⟩ (by repeat' (first | exact Cover.nil | exact Take.here | apply Cover.cons | apply Take.there))
  | some ad =>
    refine g_iff rfl ?_
    refine g_skip ?_
    refine g_qt ?_
    refine g_seq ?_
    refine g_region ?_
    refine g_eff (e_bs (xs := []) rfl rfl rfl (by rfl) (by rfl) rfl (by rfl)) rfl (fun _ _ => ?_)
    rintro ⟨b5, rfl, rfl⟩
    refine g_pure (p_move rfl) rfl ?_
    refine g_fold (k := 0) (cap := 0) (size := 1) (xs := []) .here (by omega) (by omega) rfl rfl ?_
    cases ls with
    | nil =>
      refine g_eff (e_append0 rfl rfl (by omega)) rfl (fun _ _ => ?_)
      rintro ⟨rfl, rfl⟩
      refine g_pure (p_assign rfl) rfl ?_
      refine g_nil ?_
      refine g_qt ?_
      refine g_ret ?_
      exact g_post (rs := [.tmp 2]) rfl (.tmp rfl .nil) ⟨_, _, rfl, rfl⟩ (by repeat' (first | exact Cover.nil | exact Take.here | apply Cover.cons | apply Take.there))
    | cons x l =>
      obtain ⟨ra, rb, rc⟩ := hr (by simp)
      obtain rfl : ad = ⟨b, off, none⟩ := Option.some.inj ra
      have hsub : sub cs off ((x :: l).length * 1) = some ((x :: l).map encI) := by
        have := sub_of (o := off) (i := 0) (k := (x :: l).length) rc (by simp) (by simp)
        rw [List.drop_zero, List.take_of_length_le (by simp)] at this
        simpa using this
      have hone : one1 ((x :: l).map encI) = true := by unfold one1; rw [List.all_eq_true]; intro v hv; obtain ⟨y, _, rfl⟩ := List.mem_map.1 hv; rfl
      refine g_eff (e_append rfl rfl rfl rfl (Has.ro rb) hsub hone .here (by simp) (by simp only [Nat.zero_add]; omega) (by omega)) rfl (fun _ _ => ?_)
      rintro ⟨a7, c7, rfl, rfl⟩
      refine g_pure (p_assign rfl) rfl ?_
      refine g_nil ?_
      refine g_qt ?_
      refine g_ret ?_
      have e0 : (0 : Nat) + (x :: l).length = (x :: l).length := Nat.zero_add _
      rw [e0]
      exact g_post (rs := [.tmp 2]) rfl (.tmp rfl .nil) ⟨_, _, rfl, rfl⟩ (by repeat' (first | exact Cover.nil | exact Take.here | apply Cover.cons | apply Take.there))

theorem ins_le : ∀ (l : List Gt) (i : Nat), (ins i l).length ≤ l.length
  | [], i => by simp [ins]
  | g :: l, i => by simp only [ins]; have := ins_le l (i + 1); split <;> simp <;> omega

end Go.Proofs.Ytkebblmmgcgjkaa
